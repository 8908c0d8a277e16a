/- Tables, part twelve: copies; what rises; the least and the greatest; small questions. Conditions: not too many. -/
import Derived.Test.YtbpdffopjkhelaaGreatX12
import Derived.Test.YtbpdffopjkhelaaGreatX8
import Derived.Test.YtbpdffopjkhelaaGreatX3
set_option maxRecDepth 20000
set_option maxHeartbeats 8000000
namespace Go.Proofs.YtbpdffopjkhelaaGreat
open Go Go.Eng Go.RowKit Go.WideMaps Go.Heap

theorem mZ {b:World} {F:List SP} {va:Value} {l:List Hd} (ha:∀ w,Sat b F w→SL w 34 va l.length (flC hdC l)) (ho:∀ d∈l,∀ u∈hdC d,u.oneCell'=true) (hn:l.length≤1000000):SC Tryz.prog qt [va] b F (fun v F'=>F'=row t_api_Held 34 v l.length (flC hdC l)::F):=by
 refine aw Tryz.func139 Z Z Z <| bu (fun w H=>cp (ha w H)) ?_;rintro ⟨A,c,rfl,h1,h2,h3,h4,_⟩;cases A with
 | none =>
  have hc:=h3 Z;have hx:l = []:=aol.1 (by omega);subst hx;refine akw <| ae Z <| akv <| ad <| akw <| am4 Z Z <| akv <| ao Z <| akw <| ae Z <| akv <| ai <| ag <| ar Z Z (df t_api_Held 34 Z) ?_
  rfl
 | some a =>
  refine akw <| ae Z <| akv <| ad <| akw <| am4 Z Z <| akv <| aj Z <| ak <| ab <| akw <| zC Z Z Z Z Z fun g0=>eo (kt (n:=0) (sz:=34) Z Z (by decide) 0 Z Z) <| ae Z <| ef 0 Z Z Z Z Z Z Z Z Z (up ha (af 1 [] Z)) (cK ho) (by omega) (fun _=>rfl) fun v6=>ae Z <| akv <| ai <| ar Z Z ax ?_
  show row t_api_Held 34 v6 _ _::F=_;rw [aob,aos];rfl
theorem Es {b:World} {F:List SP} {va:Value} {l:List Ev} (ha:∀ w,Sat b F w→SL w 39 va l.length (flC evC l)) (ho:∀ d∈l,∀ u∈evC d,u.oneCell'=true) (hn:l.length≤1000000):SC Tryz.prog qf [va] b F (fun v F'=>F'=row ba 39 v l.length (flC evC l)::F):=by
 refine aw Tryz.func73 Z Z Z <| bu (fun w H=>cp (ha w H)) ?_;rintro ⟨A,c,rfl,h1,h2,h3,h4,_⟩;cases A with
 | none =>
  have hc:=h3 Z;have hx:l = []:=aol.1 (by omega);subst hx;refine akw <| ae Z <| akv <| ad <| akw <| am4 Z Z <| akv <| ao Z <| akw <| ae Z <| akv <| ai <| ag <| ar Z Z (df ba 39 Z) ?_
  rfl
 | some a =>
  refine akw <| ae Z <| akv <| ad <| akw <| am4 Z Z <| akv <| aj Z <| ak <| ab <| akw <| zC Z Z Z Z Z fun g0=>eo (kt (n:=0) (sz:=39) Z Z (by decide) 0 Z Z) <| ae Z <| ef 0 Z Z Z Z Z Z Z Z Z (up ha (af 1 [] Z)) (cK ho) (by omega) (fun _=>rfl) fun v6=>ae Z <| akv <| ai <| ar Z Z ax ?_
  show row ba 39 v6 _ _::F=_;rw [aob,aos];rfl
theorem aj5 {b:World} {F:List SP} {va:Value} {D:List Rp} {f:Nat} [Bodied Tryz.prog f] (hc:∀ i (hi:i+1<D.length),SC Tryz.prog f [.agg ⟨rpC D[i]⟩,.agg ⟨rpC D[i+1]⟩] b F (fun u F'=>(∃ z:Int,z<0∧u=ii z)∧F'=F)) (hz:∀ d∈D,(rpC d).length=3) (ha:∀ w,Sat b F w→SL w 3 va D.length (flC rpC D)) (hn:D.length≤1000000) :
  SC Tryz.prog wt [va,.func (.func f) ⟨[]⟩ ⟨[]⟩] b F (fun u F'=>u = .bool true∧F'=F):=by
 refine aw Tryz.func213 Z Z Z <| bu (fun w H=>cp (ha w H)) ?_;rintro ⟨A,c,rfl,_,_,_,h4,_⟩;refine akw <| ae Z <| akv <| ad <| akw <| ae Z <| akv <| am <| dt (S:=Nat) (fun i=> [(0,.slice A D.length c),(1,.func (.func f) ⟨[]⟩ ⟨[]⟩),(5,ii ((i+1:Nat):Int))]) (fun _=>F) (fun i=>i≤D.length) (fun i=>D.length - i) 0 ax (anq _) ?_;intro i hi;refine ad <| akw <| am5 Z Z Z <| ae Z <| akv ?_;refine de Z (fun h1=> ?_) (fun h1=> ?_)
 ·have h1':i+1<D.length:=by omega
  obtain ⟨gg,oo,rfl⟩:=h4 (by omega);have ca:∀ (k:Nat) (hk:k<D.length),∀ w,Sat b F w→∀ j,j<3→w.cell? ⟨gg,oo+k*3+j,none⟩=(rpC D[k])[j]?:=fun k hk w H j hj=>fb (ha w H) hz hk hj
  have c1:=ca i (by omega);have c2:=ca (i+1) h1';have l1:=hz _ (ana (show i<D.length by omega));have l2:=hz _ (ana h1');have hcy:=hc i h1';generalize rpC D[i]=x1 at *;generalize rpC D[i+1]=x2 at *;have e1:(((i+1:Nat):Int) - 1).toNat=i:=by omega
  refine ak <| ab <| ad <| am <| ad <| cn flo _ (by decide +kernel) ax <| ay Z Zl <| ay Z Zl <| ay Z Zl <| cq Z Z <| cq Z Z ?_;refine ij Z (fun w H=>cg (cs:=x1) Z Z Z l1 (fun j hj=>by rw [bq,e1];exact c1 w H j (by rw [l1] at hj;exact hj))) Z Z ?_;refine ay Z Zl <| ay Z Zl <| cq Z Z ?_;refine ij Z (fun w H=>cg (cs:=x2) Z Z Z l2 (fun j hj=>by rw [bq,am6];exact c2 w H j (by rw [l2] at hj;exact hj))) Z Z ?_;refine d9 Z Z Z Z hcy ?_;rintro _ _ ⟨⟨z,hz,rfl⟩,rfl⟩;refine ⟨Ent.refl _,(ay Z Zl <| vr 23 Z (by omega) <| aq <| ab <| aj Z <| ak <| bh <| ab <| aa <| ae Z <| az Z <| ae Z <| ac ?_)⟩;rw [show ((i+1:Nat):Int)+1=((i+1+1:Nat):Int) by omega];refine cw (i+1) ax (show i+1≤D.length by omega)
 ·refine bz <| au <| av <| ap <| ab <| akw <| ae Z <| akv <| ai <| ar Z Z ax ?_;exact ⟨rfl,rfl⟩
theorem aj6 {b:World} {F:List SP} {va:Value} {D:List Tg} {f:Nat} [Bodied Tryz.prog f] (hc:∀ i (hi:i+1<D.length),SC Tryz.prog f [.agg ⟨tgC D[i]⟩,.agg ⟨tgC D[i+1]⟩] b F (fun u F'=>(∃ z:Int,z<0∧u=ii z)∧F'=F)) (hz:∀ d∈D,(tgC d).length=2) (ha:∀ w,Sat b F w→SL w 2 va D.length (flC tgC D)) (hn:D.length≤1000000) :
  SC Tryz.prog xy [va,.func (.func f) ⟨[]⟩ ⟨[]⟩] b F (fun u F'=>u = .bool true∧F'=F):=by
 refine aw Tryz.func214 Z Z Z <| bu (fun w H=>cp (ha w H)) ?_;rintro ⟨A,c,rfl,_,_,_,h4,_⟩;refine akw <| ae Z <| akv <| ad <| akw <| ae Z <| akv <| am <| dt (S:=Nat) (fun i=> [(0,.slice A D.length c),(1,.func (.func f) ⟨[]⟩ ⟨[]⟩),(5,ii ((i+1:Nat):Int))]) (fun _=>F) (fun i=>i≤D.length) (fun i=>D.length - i) 0 ax (anq _) ?_;intro i hi;refine ad <| akw <| am5 Z Z Z <| ae Z <| akv ?_;refine de Z (fun h1=> ?_) (fun h1=> ?_)
 ·have h1':i+1<D.length:=by omega
  obtain ⟨gg,oo,rfl⟩:=h4 (by omega);have ca:∀ (k:Nat) (hk:k<D.length),∀ w,Sat b F w→∀ j,j<2→w.cell? ⟨gg,oo+k*2+j,none⟩=(tgC D[k])[j]?:=fun k hk w H j hj=>fb (ha w H) hz hk hj
  have c1:=ca i (by omega);have c2:=ca (i+1) h1';have l1:=hz _ (ana (show i<D.length by omega));have l2:=hz _ (ana h1');have hcy:=hc i h1';generalize tgC D[i]=x1 at *;generalize tgC D[i+1]=x2 at *;have e1:(((i+1:Nat):Int) - 1).toNat=i:=by omega
  refine ak <| ab <| ad <| am <| ad <| cn flo _ (by decide +kernel) ax <| ay Z Zl <| ay Z Zl <| ay Z Zl <| cq Z Z <| cq Z Z ?_;refine ij Z (fun w H=>cg (cs:=x1) Z Z Z l1 (fun j hj=>by rw [bq,e1];exact c1 w H j (by rw [l1] at hj;exact hj))) Z Z ?_;refine ay Z Zl <| ay Z Zl <| cq Z Z ?_;refine ij Z (fun w H=>cg (cs:=x2) Z Z Z l2 (fun j hj=>by rw [bq,am6];exact c2 w H j (by rw [l2] at hj;exact hj))) Z Z ?_;refine d9 Z Z Z Z hcy ?_;rintro _ _ ⟨⟨z,hz,rfl⟩,rfl⟩;refine ⟨Ent.refl _,(ay Z Zl <| vr 23 Z (by omega) <| aq <| ab <| aj Z <| ak <| bh <| ab <| aa <| ae Z <| az Z <| ae Z <| ac ?_)⟩;rw [show ((i+1:Nat):Int)+1=((i+1+1:Nat):Int) by omega];refine cw (i+1) ax (show i+1≤D.length by omega)
 ·refine bz <| au <| av <| ap <| ab <| akw <| ae Z <| akv <| ai <| ar Z Z ax ?_;exact ⟨rfl,rfl⟩
theorem aj7 {b:World} {F:List SP} {va:Value} {D:List Hd} {f:Nat} [Bodied Tryz.prog f] (hc:∀ i (hi:i+1<D.length),SC Tryz.prog f [.agg ⟨hdC D[i]⟩,.agg ⟨hdC D[i+1]⟩] b F (fun u F'=>(∃ z:Int,z<0∧u=ii z)∧F'=F)) (hz:∀ d∈D,(hdC d).length=34) (ha:∀ w,Sat b F w→SL w 34 va D.length (flC hdC D)) (hn:D.length≤1000000) :
  SC Tryz.prog bE [va,.func (.func f) ⟨[]⟩ ⟨[]⟩] b F (fun u F'=>u = .bool true∧F'=F):=by
 refine aw Tryz.func218 Z Z Z <| bu (fun w H=>cp (ha w H)) ?_;rintro ⟨A,c,rfl,_,_,_,h4,_⟩;refine akw <| ae Z <| akv <| ad <| akw <| ae Z <| akv <| am <| dt (S:=Nat) (fun i=> [(0,.slice A D.length c),(1,.func (.func f) ⟨[]⟩ ⟨[]⟩),(5,ii ((i+1:Nat):Int))]) (fun _=>F) (fun i=>i≤D.length) (fun i=>D.length - i) 0 ax (anq _) ?_;intro i hi;refine ad <| akw <| am5 Z Z Z <| ae Z <| akv ?_;refine de Z (fun h1=> ?_) (fun h1=> ?_)
 ·have h1':i+1<D.length:=by omega
  obtain ⟨gg,oo,rfl⟩:=h4 (by omega);have ca:∀ (k:Nat) (hk:k<D.length),∀ w,Sat b F w→∀ j,j<34→w.cell? ⟨gg,oo+k*34+j,none⟩=(hdC D[k])[j]?:=fun k hk w H j hj=>fb (ha w H) hz hk hj
  have c1:=ca i (by omega);have c2:=ca (i+1) h1';have l1:=hz _ (ana (show i<D.length by omega));have l2:=hz _ (ana h1');have hcy:=hc i h1';generalize hdC D[i]=x1 at *;generalize hdC D[i+1]=x2 at *;have e1:(((i+1:Nat):Int) - 1).toNat=i:=by omega
  refine ak <| ab <| ad <| am <| ad <| cn flo _ (by decide +kernel) ax <| ay Z Zl <| ay Z Zl <| ay Z Zl <| cq Z Z <| cq Z Z ?_;refine ij Z (fun w H=>cg (cs:=x1) Z Z Z l1 (fun j hj=>by rw [bq,e1];exact c1 w H j (by rw [l1] at hj;exact hj))) Z Z ?_;refine ay Z Zl <| ay Z Zl <| cq Z Z ?_;refine ij Z (fun w H=>cg (cs:=x2) Z Z Z l2 (fun j hj=>by rw [bq,am6];exact c2 w H j (by rw [l2] at hj;exact hj))) Z Z ?_;refine d9 Z Z Z Z hcy ?_;rintro _ _ ⟨⟨z,hz,rfl⟩,rfl⟩;refine ⟨Ent.refl _,(ay Z Zl <| vr 23 Z (by omega) <| aq <| ab <| aj Z <| ak <| bh <| ab <| aa <| ae Z <| az Z <| ae Z <| ac ?_)⟩;rw [show ((i+1:Nat):Int)+1=((i+1+1:Nat):Int) by omega];refine cw (i+1) ax (show i+1≤D.length by omega)
 ·refine bz <| au <| av <| ap <| ab <| akw <| ae Z <| akv <| ai <| ar Z Z ax ?_;exact ⟨rfl,rfl⟩
theorem Xe {b:World} {F:List SP} {va:Value} {xs:List Int} {lo hi:Int} (ha:∀ w,Sat b F w→VL (Value.int .i64) w va xs) (h0:0<xs.length) (hb:∀ x∈xs,lo≤x∧x≤hi) (hn:xs.length≤1000000):SC Tryz.prog aX [va] b F (fun u F'=>(∃ z,lo≤z∧z≤hi∧u=ii z)∧F'=F):=by
 refine aw Tryz.func133 Z Z Z <| bu (fun w H=>(ha w H).form) ?_;rintro ⟨A,c,rfl,_,_,_,h4⟩;refine akw <| ae Z <| akv <| ad <| akw <| am5 Z Z Z <| akv <| oe 7 Z ?_;obtain ⟨gg,oo,rfl⟩:=h4 h0;refine aj Z <| ak <| ab <| akw <| ae Z <| az Z <| fc Z (fun w H=>br Z Z Z (VL.at (ha w H) 0 h0)) Z <| ae Z <| akv <| ad <| akw <| ae Z <| akv <| am <| dt (S:=Nat × Int) (fun s=> [(0,.slice (some ⟨gg,oo,none⟩) xs.length c),(3,ii s.2),(4,ii ((s.1+1:Nat):Int))]) (fun _=>F) (fun s=>s.1≤xs.length∧lo≤s.2∧s.2≤hi) (fun s=>xs.length - s.1) (0,xs[0]) ax ⟨anq _,hb _ (ana h0)⟩ ?_;rintro ⟨i,m⟩ ⟨h1,h2,h3⟩;dsimp only at h1 h2 h3 ⊢;refine ad <| akw <| am5 Z Z Z <| ae Z <| akv ?_;refine de Z (fun h5=> ?_) (fun h5=> ?_)
 ·have h5':i+1<xs.length:=by omega
  have hx:=hb _ (ana h5');refine ak <| ab <| ad <| am <| aa <| am5 Z Z Z <| az Z ?_;refine fc Z (fun w H=>br Z Z Z (by rw [bq,am6,aop];exact VL.at (ha w H) (i+1) h5')) Z ?_;refine am4 Z Z <| ac <| bh <| ab <| aa <| ae Z <| az Z <| ae Z <| ac ?_;rw [show ((i+1:Nat):Int)+1=((i+1+1:Nat):Int) by omega];refine cw (i+1,min m xs[i+1]) ax ⟨by dsimp only;omega,by dsimp only;omega,by dsimp only;omega⟩
 ·refine bz <| au <| av <| ap <| ab <| akw <| am4 Z Z <| akv <| ai <| ar Z Z ax ?_;exact ⟨⟨m,h2,h3,rfl⟩,rfl⟩
theorem aj8 {b:World} {F:List SP} {va:Value} {xs:List Int} {lo hi:Int} (ha:∀ w,Sat b F w→VL (Value.int .i64) w va xs) (h0:0<xs.length) (hb:∀ x∈xs,lo≤x∧x≤hi) (hn:xs.length≤1000000):SC Tryz.prog aY [va] b F (fun u F'=>(∃ z,lo≤z∧z≤hi∧u=ii z)∧F'=F):=by
 refine aw Tryz.func134 Z Z Z <| bu (fun w H=>(ha w H).form) ?_;rintro ⟨A,c,rfl,_,_,_,h4⟩;refine akw <| ae Z <| akv <| ad <| akw <| am5 Z Z Z <| akv <| oe 7 Z ?_;obtain ⟨gg,oo,rfl⟩:=h4 h0;refine aj Z <| ak <| ab <| akw <| ae Z <| az Z <| fc Z (fun w H=>br Z Z Z (VL.at (ha w H) 0 h0)) Z <| ae Z <| akv <| ad <| akw <| ae Z <| akv <| am <| dt (S:=Nat × Int) (fun s=> [(0,.slice (some ⟨gg,oo,none⟩) xs.length c),(3,ii s.2),(4,ii ((s.1+1:Nat):Int))]) (fun _=>F) (fun s=>s.1≤xs.length∧lo≤s.2∧s.2≤hi) (fun s=>xs.length - s.1) (0,xs[0]) ax ⟨anq _,hb _ (ana h0)⟩ ?_;rintro ⟨i,m⟩ ⟨h1,h2,h3⟩;dsimp only at h1 h2 h3 ⊢;refine ad <| akw <| am5 Z Z Z <| ae Z <| akv ?_;refine de Z (fun h5=> ?_) (fun h5=> ?_)
 ·have h5':i+1<xs.length:=by omega
  have hx:=hb _ (ana h5');refine ak <| ab <| ad <| am <| aa <| am5 Z Z Z <| az Z ?_;refine fc Z (fun w H=>br Z Z Z (by rw [bq,am6,aop];exact VL.at (ha w H) (i+1) h5')) Z ?_;refine am4 Z Z <| ac <| bh <| ab <| aa <| ae Z <| az Z <| ae Z <| ac ?_;rw [show ((i+1:Nat):Int)+1=((i+1+1:Nat):Int) by omega];refine cw (i+1,max m xs[i+1]) ax ⟨by dsimp only;omega,by dsimp only;omega,by dsimp only;omega⟩
 ·refine bz <| au <| av <| ap <| ab <| akw <| am4 Z Z <| akv <| ai <| ar Z Z ax ?_;exact ⟨⟨m,h2,h3,rfl⟩,rfl⟩
section
variable {b:World} {F:List SP}
theorem Me {x y:Rp}:SC Tryz.prog bB [.agg ⟨rpC x⟩,.agg ⟨rpC y⟩] b F (fun v F'=>v=ii (cbN x.nm y.nm)∧F'=F):=by
 refine aw Tryz.func210 Z Z Z <| akw <| bx Z Z Z Z Z fun g2=>bx Z Z Z Z Z fun g3=>ae Z <| aan <| ae Z <| bt 1 Z Z Z <| ae Z <| bt 0 Z Z Z <| bg Z Z Z (dH) <| ae Z <| akv <| ai <| ar Z Z (af 2 [] Z) ?_
 exact ⟨rfl,rfl⟩
theorem Mf {x y:Tg}:SC Tryz.prog uz [.agg ⟨tgC x⟩,.agg ⟨tgC y⟩] b F (fun v F'=>v=ii (cbN x.nm y.nm)∧F'=F):=by
 refine aw Tryz.func212 Z Z Z <| akw <| bx Z Z Z Z Z fun g2=>bx Z Z Z Z Z fun g3=>ae Z <| aan <| ae Z <| bt 1 Z Z Z <| ae Z <| bt 0 Z Z Z <| bg Z Z Z (dH) <| ae Z <| akv <| ai <| ar Z Z (af 2 [] Z) ?_
 exact ⟨rfl,rfl⟩
theorem Mg {x:Tg} {A:Option Addr} {n c:Nat} (hv:x.hv = .slice A n c):SC Tryz.prog bC [.agg ⟨tgC x⟩] b F (fun v F'=>v = .bool (decide (n=0))∧F'=F):=by
 refine aw Tryz.func215 Z Z Z <| akw <| bx Z Z Z Z Z fun g1=>ae Z <| aan <| ae Z <| bt 0 Z Z Z <| bm 4 (.slice A n c) Z hv <| am5 Z Z Z <| akv <| ai <| ar Z Z (af 1 [] Z) ?_
 exact ⟨am7 Value.bool (aqd.2 (by omega)),rfl⟩
theorem Uv {x:Tg} {A:Option Addr} {n c:Nat} (hv:x.hv = .slice A n c):SC Tryz.prog uh [.agg ⟨tgC x⟩] b F (fun v F'=>v = .bool (decide (n=0))∧F'=F):=by
 refine aw Tryz.func147 Z Z Z <| akw <| bx Z Z Z Z Z fun g1=>ae Z <| aan <| ae Z <| bt 0 Z Z Z <| bm 4 (.slice A n c) Z hv <| am5 Z Z Z <| akv <| ai <| ar Z Z (af 1 [] Z) ?_
 exact ⟨am7 Value.bool (aqd.2 (by omega)),rfl⟩
theorem Uw {x:Rp} {A B:Option Addr} {n c m d:Nat} (hv:x.tv = .slice A n c) (hm:x.mv = .slice B m d) (hn:n≤1000000) (hmm:m≤1000000):SC Tryz.prog uj [.agg ⟨rpC x⟩] b F (fun v F'=>v = .bool (decide (n+m=0))∧F'=F):=by
 refine aw Tryz.func149 Z Z Z <| akw <| bx Z Z Z Z Z fun g1=>ae Z <| aan <| ae Z <| bt 0 Z Z Z <| bm 4 (.slice A n c) Z hv <| am4 Z Z <| bt 0 Z Z Z <| bm 7 (.slice B m d) Z hm <| ae Z <| az Z <| am4 Z Z <| akv <| ai <| ar Z Z (af 1 [] Z) ?_
 exact ⟨am7 Value.bool (aqd.2 (by omega)),rfl⟩
theorem Qk {x:Tg}:SC Tryz.prog dN [.agg ⟨tgC x⟩] b F (fun v F'=>v = .bool (!decide (po (fe x.nm)=(0,0)))∧F'=F):=by
 refine aw Tryz.func135 Z Z Z <| akw <| bx Z Z Z Z Z fun g1=>ae Z <| aan <| ae Z <| bt 0 Z Z Z <| bg Z Z Z (I7) <| ae Z <| nq Z (sj Z Z (mq (po (fe x.nm)).1 (po (fe x.nm)).2 0 0)) Z <| ae Z <| akv <| ai <| ar Z Z (af 1 [] Z) ?_
 exact ⟨am7 (fun q=>Value.bool (!q)) (aqd.2 (by rw [Prod.ext_iff])),rfl⟩
theorem Ux {x:Rp} {s:ByteArray}:SC Tryz.prog um [.agg ⟨rpC x⟩,.string s] b F (fun v F'=>v=ii (cbN x.nm s)∧F'=F):=by
 refine aw Tryz.func221 Z Z Z <| akw <| bx Z Z Z Z Z fun g1=>ae Z <| aan <| ae Z <| bt 0 Z Z Z <| ae Z <| bg Z Z Z (dH) <| ae Z <| akv <| ai <| ar Z Z (af 1 [] Z) ?_
 exact ⟨rfl,rfl⟩
theorem Zr {x:Tg} {s:ByteArray}:SC Tryz.prog vz [.agg ⟨tgC x⟩,.string s] b F (fun v F'=>v=ii (cbN x.nm s)∧F'=F):=by
 refine aw Tryz.func228 Z Z Z <| akw <| bx Z Z Z Z Z fun g1=>ae Z <| aan <| ae Z <| bt 0 Z Z Z <| ae Z <| bg Z Z Z (dH) <| ae Z <| akv <| ai <| ar Z Z (af 1 [] Z) ?_
 exact ⟨rfl,rfl⟩
theorem Ql {x:Hd} (hx:x.id.length=32):SC Tryz.prog cR [hdV x] b F (fun v F'=>v = .bool true∧F'=F):=by
 refine aw Tryz.func145 Z Z Z <| akw <| bx Z Z Z Z Z fun g1=>ae Z <| aan <| ae Z <| akv <| ai <| ar Z Z (af 1 [] Z) ?_
 exact ⟨rfl,rfl⟩
end

def hR (r:Rp):List Hd:=(r.ts.flatMap fun g=>g.hs)++r.ms
def kQ (l:List Rp):List Hd:=l.flatMap hR
theorem Mh (l:List Rp):(kQ l).map (·.d)=jJ (l.map Rp.pl):=by
 induction l with
 | nil => rfl
 | cons r l ih =>
  show (hR r++kQ l).map (·.d)=mY r.pl++jJ (l.map Rp.pl);rw [anu,ih];congr 1;unfold hR mY Rp.pl;rw [anu,List.map_flatMap,List.flatMap_map];rfl
theorem yM {l:List Rp} {i:Nat} (hi:i<l.length):kQ (l.take (i+1))=kQ (l.take i)++hR l[i]:=by
 rw [ang hi];unfold kQ;rw [ap9];simp
theorem Jx {l:List Tg} {i:Nat} (hi:i<l.length):((l.take (i+1)).flatMap fun g=>g.hs)=((l.take i).flatMap fun g=>g.hs)++l[i].hs:=by
 rw [ang hi,ap9];simp
theorem Qm {l:List Rp} {i:Nat} (hi:i<l.length):∃ T,kQ l=kQ (l.take i)++hR l[i]++T:=by
 refine ⟨kQ (l.drop (i+1)),?_⟩;rw [← yM hi];unfold kQ;rw [← ap9,an9]
theorem Zs {l:List Tg} {i:Nat} (hi:i<l.length):∃ T,(l.flatMap fun g=>g.hs)=((l.take i).flatMap fun g=>g.hs)++l[i].hs++T:=by
 refine ⟨(l.drop (i+1)).flatMap fun g=>g.hs,?_⟩;rw [← Jx hi,← ap9,an9]
theorem H9 {w:World} {sz n:Nat} {v:Value} {cs:List Value} (h:SL w sz v n cs):v.oneCell'=true:=by
 obtain ⟨A,c,rfl,_⟩:=cp h;rfl
theorem RR.one {w:World} {r:Rp} (h:RR w r):∀ u∈rpC r,u.oneCell'=true:=by
 have h1:=H9 h.t;have h2:=H9 h.m;intro u hu;simp only [rpC,anj,apb,or_false] at hu;rcases hu with rfl | rfl | rfl
 ·rfl
 ·exact h1
 ·exact h2
theorem Az {w:World} {g:Tg} (h:SL w 34 g.hv g.hs.length (wx g.hs)):∀ u∈tgC g,u.oneCell'=true:=by
 have h1:=H9 h;intro u hu;simp only [tgC,anj,apb,or_false] at hu;rcases hu with rfl | rfl
 ·rfl
 ·exact h1
section
variable {b:World} {t:Tb} {f:Nat} [Bodied Tryz.prog f] {caps:List Value} {G:List Hd→List SP}
theorem aj9 (hW:TW t) (hT:∀ A w,Sat b (G A) w→TR w t)
  (hc:∀ (A hs T:List Hd) (nm tg:ByteArray) (pu:Bool) (v:Value) (B:List SP),kQ t.rs=A++hs++T→(∃ r∈t.rs,(∃ g∈r.ts,hs=g.hs)∨hs=r.ms)→(∀ A' w,Sat b (B++G A') w→SL w 34 v hs.length (wx hs)) →
   SC Tryz.prog f ([.string nm,.string tg,.bool pu,v]++caps) b (B++G A) (fun u F'=>u = .bool true∧F'=B++G (A++hs))) :
  SC Tryz.prog Cx [tbV t,.func (.func f) ⟨[]⟩ ⟨caps⟩] b (G []) (fun u F'=>u = .bool true∧F'=G (kQ t.rs)):=by
 refine aw Tryz.func216 Z Z Z <| bu (fun w H=>cp (hT [] w H).r) ?_;rintro ⟨A,c,hrv,_,_,_,h4,_⟩;have hrn:=hW.rn;refine akw <| bx Z Z Z Z Z fun g2=>ae Z <| akv <| ad <| akw <| ae Z <| bt 0 Z Z Z <| bm 10 (.slice A t.rs.length c) Z hrv <| am4 Z Z <| akv <| am ?_
 refine dt (S:=Nat) (fun i=> [(1,.func (.func f) ⟨[]⟩ ⟨caps⟩),(2,pp g2),(10,.slice A t.rs.length c),(11,ii t.rs.length),(12,ii i)]) (fun i=>pt g2 bj (tbC t)::G (kQ (t.rs.take i))) (fun i=>i≤t.rs.length) (fun i=>t.rs.length - i) 0 (by rw [ap4];exact Ent.refl _) (anq _) ?_;intro i hi;refine akw <| ae Z <| akv <| ad ?_;refine de Z (fun h1=> ?_) (fun h1=> ?_);rotate_left
 ·obtain rfl:i=t.rs.length:=by omega
  refine bz <| au <| av <| ap <| ab <| akw <| ae Z <| akv <| ai <| ar Z Z (af 1 [] Z) ?_;rw [an7];exact ⟨rfl,rfl⟩
 have h1':i<t.rs.length:=by omega
 obtain ⟨gg,oo,rfl⟩:=h4 (by omega);have hrm:=ana h1';have hcr:∀ w,Sat b (G (kQ (t.rs.take i))) w→∀ j,j<3→w.cell? ⟨gg,oo+i*3+j,none⟩=(rpC t.rs[i])[j]?:=fun w H j hj=>fb (f:=rpC) (by have:=(hT _ w H).r;rwa [hrv] at this) (fun _ _=>rfl) h1' hj
 have hrr:∀ A w,Sat b (G A) w→RR w t.rs[i]:=fun A w H=>(hT A w H).rr _ hrm
 have hrw:=hW.rw _ hrm;have hst:=yM h1';obtain ⟨T0,hT0⟩:=Qm h1';generalize hA:kQ (t.rs.take i)=A0 at *;generalize t.rs[i]=r at *;have htn:=hrw.tn;refine ak <| ab <| ad <| am <| akw <| az Z ?_;refine fc Z (fun w H=>cg (cs:=rpC r) Z Z Z Z (fun j hj=>by rw [bq,am6];exact hcr w (H.ent (af 1 [] Z)) j hj)) Z ?_;refine b9 (fun w H=>(hrr A0 w (H.ent (af 1 [] Z))).one) fun hone=> ?_;refine db Z Z Z Z Z fun g6=> ?_;refine fh 0 Z Z Z Z Z Z Z Z hone Z <| akv <| ad <| akw <| ae Z <| bt 0 Z Z Z <| b9 (fun w H=>cp (hrr A0 w (H.ent (af 2 [] Z))).t) ?_;rintro ⟨A3,c3,htv,_,_,_,k4,_⟩;refine bm 17 (.slice A3 r.ts.length c3) Z htv <| am4 Z Z <| akv <| am ?_;refine dt (S:=Nat) (fun k=> [(1,.func (.func f) ⟨[]⟩ ⟨caps⟩),(2,pp g2),(6,pp g6),(10,.slice (some ⟨gg,oo,none⟩) t.rs.length c),(11,ii t.rs.length),(12,ii i),(17,.slice A3 r.ts.length c3),(18,ii r.ts.length),(19,ii k)]) (fun k=>pt g6 bi (rpC r)::pt g2 bj (tbC t)::G (A0++(r.ts.take k).flatMap fun g=>g.hs)) (fun k=>k≤r.ts.length) (fun k=>r.ts.length - k) 0 (by rw [ap4,List.flatMap_nil,anv];exact Ent.refl _) (anq _) ?_;intro k hk;refine akw <| ae Z <| akv <| ad ?_;refine de Z (fun h2=> ?_) (fun h2=> ?_)
 ·have h2':k<r.ts.length:=by omega
  obtain ⟨gt,ot,rfl⟩:=k4 (by omega);have hgm:=ana h2';have hct:∀ A w,Sat b (G A) w→∀ j,j<2→w.cell? ⟨gt,ot+k*2+j,none⟩=(tgC r.ts[k])[j]?:=fun A w H j hj=>fb (f:=tgC) (by have:=(hrr A w H).t;rwa [htv] at this) (fun _ _=>rfl) h2' hj
  have hgr:∀ A w,Sat b (G A) w→SL w 34 r.ts[k].hv r.ts[k].hs.length (wx r.ts[k].hs):=fun A w H=>(hrr A w H).g _ hgm
  have hst2:=Jx h2';obtain ⟨T1,hT1⟩:=Zs h2';generalize hA1:((r.ts.take k).flatMap fun g=>g.hs)=A1 at *;generalize r.ts[k]=g at *;refine ak <| ab <| ad <| am <| akw <| az Z ?_;refine fc Z (fun w H=>cg (cs:=tgC g) Z Z Z Z (fun j hj=>by rw [bq,am6];exact hct _ w (H.ent (af 2 [] Z)) j hj)) Z ?_;refine b9 (fun w H=>Az (hgr _ w (H.ent (af 2 [] Z)))) fun hone2=> ?_;refine db Z Z Z Z Z fun g8=> ?_;refine fh 0 Z Z Z Z Z Z Z Z hone2 Z <| aan <| am4 Z Z <| bt 1 Z Z Z <| ae Z <| bt 0 Z Z Z <| ae Z <| bt 0 Z Z Z ?_;refine bf Z Z Z (hc (A0++A1) g.hs (T1++r.ms++T0) r.nm g.nm false g.hv [_,_,_] (by rw [hT0,hR,hT1];simp) ⟨r,hrm,.inl ⟨g,hgm,rfl⟩⟩ (fun A' w H=>hgr A' w (H.ent (af 3 [] Z)))) ?_;rintro _ _ ⟨rfl,rfl⟩;refine ae Z <| akv <| aj Z <| ak <| bh <| ab <| aa <| az Z <| ae Z <| ac ?_;rw [anh,← hst2];refine cw (k+1) (af 3 [1,2] Z) (show k+1≤_ by omega)
 ·obtain rfl:k=r.ts.length:=by omega
  rw [an7];have e9:A0++(r.ts.flatMap fun g=>g.hs)++r.ms=kQ (t.rs.take (i+1)):=by rw [hst,hR,anh]
  refine bz <| au <| av <| ap <| ab <| akw <| am4 Z Z <| bt 0 Z Z Z <| ae Z <| bt 0 Z Z Z ?_;refine bf Z Z Z (hc (A0++r.ts.flatMap fun g=>g.hs) r.ms T0 r.nm ⟨⟨[]⟩⟩ true r.mv [_,_] (by rw [hT0,hR];simp) ⟨r,hrm,.inr rfl⟩ (fun A' w H=>(hrr A' w (H.ent (af 2 [] Z))).m)) ?_;rintro _ _ ⟨rfl,rfl⟩;rw [e9];refine ae Z <| akv <| aj Z <| ak <| bh <| ab <| aa <| az Z <| ae Z <| ac ?_;refine cw (i+1) (af 2 [1] Z) (show i+1≤_ by omega)
end
def dm (l:List Hd):List ((Int × Int) × Value):=l.map fun h=>(h.d,.agg ⟨[]⟩)
theorem uT {α:Type} [DecidableEq α] {a:α}:∀ {l:List (α × Value)},(∀ x∈l,x.1≠a)→md a l=none∧∀ v,sy a v l=l ++ [(a,v)]
 | [], _ => ⟨rfl, fun _ => rfl⟩
 | x :: l, h => by
  obtain ⟨i1,i2⟩:=uT (l:=l) fun y hy=>h y (ank _ hy)
  have hx:=h x anl;exact ⟨by rw [md,if_neg hx,i1],fun v=>by rw [sy,if_neg hx,i2];rfl⟩
theorem Zt {A:List Hd} {h:Hd} {T:List Hd} (hn:((A++h::T).map (·.d)).Nodup):md h.d (dm A)=none∧sy h.d (.agg ⟨[]⟩) (dm A)=dm (A ++ [h]):=by
 obtain ⟨h1,h2⟩:=uT (a:=h.d) (l:=dm A) fun x hx=>by
  obtain ⟨y,hy,rfl⟩:=anb.1 hx;rw [anu,ap8] at hn;exact hn.2.2 y.d (anb.2 ⟨y,hy,rfl⟩) h.d (by simp)
 exact ⟨h1,by rw [h2];simp [dm]⟩
abbrev fmG (t:Tb) (g1 g7 gm:Nat) (F:List SP) (A:List Hd):List SP:=pt g7 fL [.map (some gm)]::mp gm y3 lm (dm A)::pt g1 bj (tbC t)::F
theorem Et (x:Hd):wp (hdC x) 0 2=some [ii x.d.1,ii x.d.2]:=jQ (l:= [ii x.d.1,ii x.d.2]) (u8s x.id) Z
theorem uU {x:Hd} (h:x.id.length=32):wp (hdC x) 2 32=some (u8s x.id):=dj (cs:=u8s x.id) (by rw [dr,h])
section
variable {b:World} {F:List SP} {t:Tb} {g1 g7 gm:Nat}
theorem Mi {A hs T:List Hd} {nm tg:ByteArray} {pu:Bool} {v:Value} (hok:∀ h∈hs,bX h) (hn:hs.length≤1000) (hr:nk hs) (hnd:((A++hs++T).map (·.d)).Nodup) (hh:∀ h∈hs,fq t.V h.d.1 h.d.2=true) (hv:∀ w,Sat b F w→VL (Value.int .i64) w t.vv t.V) (hs0:∀ w A',Sat b (fmG t g1 g7 gm F A') w→SL w 34 v hs.length (wx hs)) :
  SC Tryz.prog bD [.string nm,.string tg,.bool pu,v,pp g7,pp g1] b (fmG t g1 g7 gm F A) (fun u F'=>u = .bool true∧F'=fmG t g1 g7 gm F (A++hs)):=by
 have hz:∀ h∈hs,(hdC h).length=34:=fun h hh=>mu (hok h hh).id.1
 refine aw Tryz.func217 Z Z Z <| bu (fun w H=>cp (hs0 w A H)) ?_;rintro ⟨A0,c,rfl,_,_,_,h4,_⟩;refine akw <| ae Z <| akv <| ad <| akw <| am5 Z Z Z <| akv <| am ?_;refine dt (S:=Nat) (fun i=> [(3,.slice A0 hs.length c),(4,pp g7),(5,pp g1),(15,.slice A0 hs.length c),(16,ii hs.length),(17,ii i)]) (fun i=>fmG t g1 g7 gm F (A++hs.take i)) (fun i=>i≤hs.length) (fun i=>hs.length - i) 0 (by rw [ap4,anv];exact Ent.refl _) (anq _) ?_;intro i hi;refine akw <| ae Z <| akv <| ad ?_;refine de Z (fun h1=> ?_) (fun h1=> ?_)
 ·have h1':i<hs.length:=by omega
  obtain ⟨gg,oo,rfl⟩:=h4 (by omega);have hm:=ana h1';have hcr:∀ w,Sat b (fmG t g1 g7 gm F (A++hs.take i)) w→∀ j,j<34→w.cell? ⟨gg,oo+i*34+j,none⟩=(hdC hs[i])[j]?:=fun w H j hj=>fb (hs0 w _ H) hz h1' hj
  have hsn:hs.take (i+1)=hs.take i ++ [hs[i]]:=ang h1';have hxo:=hok _ hm;have hxh:=hh _ hm;have hdo:=Zt (A:=A++hs.take i) (h:=hs[i]) (T:=hs.drop (i+1)++T) (by
   have:A++hs.take i++hs[i]::(hs.drop (i+1)++T)=A++hs++T:=by
    rw [← aoe,← an8 h1'];simp [← List.append_assoc];simp [anh]
   rw [this];exact hnd)
  rw [anh,← hsn] at hdo;generalize hs[i]=x at *;have xl:=mu hxo.id.1;have x1:=rg x;refine ak <| ab <| ad <| am <| akw <| az Z ?_;refine fc Z (fun w H=>cg (cs:=hdC x) Z Z Z xl (fun j hj=>by rw [bq,am6];exact hcr w H j (by rw [xl] at hj;exact hj))) Z ?_;refine db Z Z Z Z Z fun g12=> ?_;refine fh 0 Z Z Z Z Z Z Z xl x1 (by rw [xl];rfl) ?_;refine akv <| ad <| akw <| bt 1 Z Z Z <| ae Z <| du 0 Z Z Z Z Z Z (Et x) Z ?_
  skip
  refine lF 2 td hxo.d hdo.1 Z Z Z Z Z Z Z Z <| am5 Z Z Z <| db Z Z Z Z Z fun g13=> ?_;refine fh 0 Z Z Z Z Z Z Z Z (fun u hu=>by cases hu) Z ?_;refine ae Z <| aan <| am5 Z Z Z <| bt 4 Z Z Z <| ae Z <| du 1 Z Z Z Z Z Z (Et x) Z <| bg Z Z Z (uE (up hv (af 5 [] Z))) ?_;rw [hxh];refine am4 Z Z <| akv <| aj Z <| ak <| ab <| aa <| bt 2 Z Z Z <| ae Z <| du 1 Z Z Z Z Z Z (Et x) Z <| ae Z <| Gb 3 td hxo.d Z Z Z Z Z Z Z Z ?_;rw [hdo.2];refine ac <| bh <| ab <| aa <| az Z <| ae Z <| ac ?_;refine cw (i+1) (af 2 [] Z) (show i+1≤_ by omega)
 ·obtain rfl:i=hs.length:=by omega
  rw [an7];refine bz <| au <| av <| ap <| ab <| akw <| ae Z ?_;refine bg Z Z Z (aj7 (D:=hs) (f:=aC) (fun i hi=>(Jv (hok _ (ana (show i<hs.length by omega))).id.1 (hok _ (ana hi)).id.1).mono fun u F' h=>⟨⟨_,gJ.2 (aou.1 hr i (i+1) (by omega) hi (by omega)),h.1⟩,h.2⟩) hz (hs0 · (A++hs)) (by omega)) ?_;refine ae Z <| akv <| ai <| ar Z Z ax ?_;exact ⟨rfl,rfl⟩
theorem yN {a c d:SP} (B F:List SP):(B++a::c::d::F).Perm (a::c::d::(B++F)) :=
 an2.trans (List.Perm.cons _ (an2.trans (List.Perm.cons _ an2)))
theorem RR.tgf {w:World} {r:Rp} (h:RR w r):∀ g∈r.ts,∃ A c,g.hv = .slice A g.hs.length c:=fun g hg=>by
 obtain ⟨A,c,h1,_⟩:=cp (h.g g hg);exact ⟨A,c,h1⟩
theorem Qn (hW:TW t) (hrs:ve (t.rs.map Rp.pl)) (hnd:(jJ (t.rs.map Rp.pl)).Nodup) (hh:∀ d∈jJ (t.rs.map Rp.pl),fq t.V d.1 d.2=true) (hT:∀ w,Sat b F w→TR w t) :
  SC Tryz.prog sQ [tbV t] b F (fun u F'=>u = .bool true∧F'=F):=by
 have hrn:=hW.rn;have hpw:∀ (i j:Nat) (hi:i<t.rs.length) (hj:j<t.rs.length),i<j→cbN t.rs[i].nm t.rs[j].nm<0:=fun i j hi hj hij=>by
  have:=aou.1 hrs.rs i j (by rw [anf];exact hi) (by rw [anf];exact hj) hij;rwa [aox,aox] at this
 have hok:∀ r∈t.rs,Zm r.pl:=fun r hr=>hrs.ok _ (anb.2 ⟨r,hr,rfl⟩)
 refine aw Tryz.func137 Z Z Z <| bu (fun w H=>cp (hT w H).r) ?_;rintro ⟨A,c,hrv,_,_,_,h4,_⟩;refine akw <| bx Z Z Z Z Z fun g1=>ae Z <| aan <| ae Z <| aan <| ae Z <| akv <| ad <| akw <| ae Z <| bt 0 Z Z Z <| ae Z <| bm 9 (.slice A t.rs.length c) Z hrv ?_
 skip
 refine bg Z Z Z (aj5 (D:=t.rs) (f:=bB) (fun i hi=>Me.mono fun u F' h=>⟨⟨_,hpw i (i+1) (by omega) hi (by omega),h.1⟩,h.2⟩) (fun _ _=>rfl) (fun w H=>by have:=(hT w (H.ent (af 1 [] Z))).r;rwa [hrv] at this) (by omega)) ?_;refine ae Z <| akv <| aj Z <| ak <| ab <| ad <| akw <| ae Z <| bt 0 Z Z Z <| bm 14 (.slice A t.rs.length c) Z hrv <| am4 Z Z <| akv <| am <| dt (S:=Nat) (fun i=> [(1,pp g1),(4,.func (.func uz) ⟨[]⟩ ⟨[]⟩),(14,.slice A t.rs.length c),(15,ii t.rs.length),(16,ii i)]) (fun _=>pt g1 bj (tbC t)::F) (fun i=>i≤t.rs.length) (fun i=>t.rs.length - i) 0 ax (anq _) ?_;intro i hi;refine akw <| ae Z <| akv <| ad ?_;refine de Z (fun h1=> ?_) (fun h1=> ?_)
 ·have h1':i<t.rs.length:=by omega
  obtain ⟨gg,oo,rfl⟩:=h4 (by omega);have hrm:=ana h1';have hcr:∀ w,Sat b F w→∀ j,j<3→w.cell? ⟨gg,oo+i*3+j,none⟩=(rpC t.rs[i])[j]?:=fun w H j hj=>fb (f:=rpC) (by have:=(hT w H).r;rwa [hrv] at this) (fun _ _=>rfl) h1' hj
  have hrr:∀ w,Sat b F w→RR w t.rs[i]:=fun w H=>(hT w H).rr _ hrm
  have hrw:=hW.rw _ hrm;have hro:=hok _ hrm;generalize t.rs[i]=r at *;have htn:=hrw.tn;have hmn:=hrw.mn;have hts:∀ (i j:Nat) (hi:i<r.ts.length) (hj:j<r.ts.length),i<j→cbN r.ts[i].nm r.ts[j].nm<0:=fun i j hi hj hij=>by
   have:=aou.1 hro.ts i j (by rw [Rp.pl,anf];exact hi) (by rw [Rp.pl,anf];exact hj) hij;unfold Rp.pl at this;rwa [aox,aox] at this
  have hne:r.ts.length+r.ms.length≠0:=fun h0=>by
   rcases hro.ne with h | h
   ·exact h (by unfold Rp.pl;rw [aol.1 (show r.ts.length=0 by omega)];rfl)
   ·exact h (aol.1 (show r.ms.length=0 by omega))
  have hgn:∀ g∈r.ts,g.hs.length≠0:=fun g hg h0=>(hro.th g.pl (anb.2 ⟨g,hg,rfl⟩)).1 (aol.1 h0)
  refine ak <| ab <| ad <| am <| akw <| az Z ?_;refine fc Z (fun w H=>cg (cs:=rpC r) Z Z Z Z (fun j hj=>by rw [bq,am6];exact hcr w (H.ent (af 1 [] Z)) j hj)) Z ?_;refine b9 (fun w H=>(hrr w (H.ent (af 1 [] Z))).one) fun hone=> ?_;refine b9 (fun w H=>cp (hrr w (H.ent (af 1 [] Z))).t) ?_;rintro ⟨A3,c3,htv,_⟩;refine b9 (fun w H=>cp (hrr w (H.ent (af 1 [] Z))).m) ?_;rintro ⟨A5,c5,hmv,_⟩;refine b9 (fun w H=>(hrr w (H.ent (af 1 [] Z))).tgf) fun htg=> ?_;refine db Z Z Z Z Z fun g6=> ?_;refine fh 0 Z Z Z Z Z Z Z Z hone Z <| aan <| ae Z <| bt 0 Z Z Z <| ae Z ?_;have hsl:∀ w,Sat b (pt g6 bi (rpC r)::pt g1 bj (tbC t)::F) w→SL w 2 r.tv r.ts.length (dE r.ts):=fun w H=>(hrr w (H.ent (af 2 [] Z))).t
  refine bg Z Z Z (aj6 (D:=r.ts) (f:=uz) (fun i hi=>Mf.mono fun u F' h=>⟨⟨_,hts i (i+1) (by omega) hi (by omega),h.1⟩,h.2⟩) (fun _ _=>rfl) hsl (by omega)) <| am5 Z Z Z <| bt 0 Z Z Z <| bm 27 (.slice A3 r.ts.length c3) Z htv <| am4 Z Z <| bt 0 Z Z Z <| bm 30 (.slice A5 r.ms.length c5) Z hmv <| ae Z <| az Z <| am5 Z Z Z <| px 35 Z <| ae Z <| bt 0 Z Z Z ?_;refine bg Z Z Z (Xb (D:=r.ts) (p:=fun g=>decide (g.hs.length=0)) (f:=bC) (pre:= []) (post:= []) (fun g hg B=>by
   obtain ⟨A9,c9,h9⟩:=htg g hg;exact Mg h9) (fun _ _=>rfl) hsl (by omega)) ?_
  rw [aqx.2 fun g hg=>by simpa using hgn g hg];refine ae Z <| akv <| aj Z <| ak <| bh <| ab <| aa <| az Z <| ae Z <| ac ?_;refine cw (i+1) (af 2 [1] Z) (show i+1≤_ by omega)
 ·refine bz <| au <| av <| ap <| ab <| akw <| yo y3 lm Z Z Z fun gm=>db Z Z Z Z Z fun g7=>eu 0 Z Z Z Z <| aan <| bt 2 Z Z Z <| ae Z ?_
  refine bf Z Z Z (aj9 (t:=t) (f:=bD) (caps:= [pp g7,pp g1]) (G:=fmG t g1 g7 gm F) hW (fun A w H=>hT w (H.ent (af 3 [] Z))) (fun A hs T nm tg pu v B hall hx hsl=>by
   have hw:(∀ h∈hs,bX h)∧hs.length≤1000∧nk hs:=by
    obtain ⟨r,hr,⟨g,hg,rfl⟩ | rfl⟩:=hx
    ·exact ⟨(hW.rw r hr).gh g hg,(hW.rw r hr).gn g hg,((hok r hr).th g.pl (anb.2 ⟨g,hg,rfl⟩)).2⟩
    ·exact ⟨(hW.rw r hr).mh,(hW.rw r hr).mn,(hok r hr).ms⟩
   have hd:=Mh t.rs;refine ((Mi (F:=B++F) (T:=T) hw.1 hw.2.1 hw.2.2 (by rw [← hall,hd];exact hnd) (fun h hh'=>hh _ (by rw [← hd,hall];exact anb.2 ⟨h,by simp [hh'],rfl⟩)) (fun w H=>(hT w (H.ent (qr B))).v) (fun w A' H=>hsl A' w (H.ent (je (yN B F).symm)))).ent (je (yN B F))).out ?_;rintro u _ ⟨h1,rfl⟩;exact ⟨_,je (yN B F).symm,h1,rfl⟩)) ?_
  rintro _ _ ⟨rfl,rfl⟩;refine ae Z <| akv <| ai <| ar Z Z (af 3 [] Z) ?_;exact ⟨rfl,rfl⟩
structure TK (t:Tb):Prop where
 w:TW t
 k:Tok t.pl
theorem nA (hk:TK t) (hT:∀ w,Sat b F w→TR w t):SC Tryz.prog vP [tbV t] b F (fun u F'=>u=ii 0∧F'=F):=by
 have hW:=hk.w;have hrn:=hW.rn;have hn1:1≤t.V.length:=hk.k.n1;have hn2:t.V.length≤16:=hk.k.n2;have hvo:∀ x∈t.V,0≤x∧x≤1048576:=hk.k.vo;refine aw Tryz.func52 Z Z Z <| bu (fun w H=>cp (hT w H).r) ?_;rintro ⟨A,c,hrv,_,_,_,h4,_⟩;refine bu (fun w H=>(hT w H).v.form) ?_;rintro ⟨A1,c1,hvv,_⟩;refine akw <| bx Z Z Z Z Z fun g1=>ae Z <| akv <| ad <| akw <| ae Z <| bt 0 Z Z Z ?_
 have hvl:∀ w,Sat b (pt g1 bj (tbC t)::F) w→VL (Value.int .i64) w t.vv t.V:=fun w H=>(hT w (H.ent (af 1 [] Z))).v
 refine bm 7 (.slice A1 t.V.length c1) Z hvv <| am5 Z Z Z <| px 10 Z <| ae Z <| bt 0 Z Z Z <| bm 12 (.slice A1 t.V.length c1) Z hvv <| am5 Z Z Z <| ae Z <| px 16 Z <| ae Z <| bt 0 Z Z Z <| bf Z Z Z (Xe hvl (by omega) hvo (by omega)) ?_;rintro _ _ ⟨⟨z,z1,z2,rfl⟩,rfl⟩;refine am5 Z Z Z <| px 22 Z <| ae Z <| bt 0 Z Z Z <| bf Z Z Z (aj8 hvl (by omega) hvo (by omega)) ?_;rintro _ _ ⟨⟨z',z1',z2',rfl⟩,rfl⟩;refine am4 Z Z <| akv <| oe 27 Z <| aj Z <| ak <| ab <| ad <| akw <| ae Z <| bt 0 Z Z Z <| bm 29 (.slice A t.rs.length c) Z hrv <| am4 Z Z <| akv <| am <| dt (S:=Nat) (fun i=> [(1,pp g1),(29,.slice A t.rs.length c),(30,ii t.rs.length),(31,ii i)]) (fun _=>pt g1 bj (tbC t)::F) (fun i=>i≤t.rs.length) (fun i=>t.rs.length - i) 0 ax (anq _) ?_;intro i hi;refine akw <| ae Z <| akv <| ad ?_;refine de Z (fun h1=> ?_) (fun h1=> ?_)
 ·have h1':i<t.rs.length:=by omega
  obtain ⟨gg,oo,rfl⟩:=h4 (by omega);have hrm:=ana h1';have hcr:∀ w,Sat b F w→∀ j,j<3→w.cell? ⟨gg,oo+i*3+j,none⟩=(rpC t.rs[i])[j]?:=fun w H j hj=>fb (f:=rpC) (by have:=(hT w H).r;rwa [hrv] at this) (fun _ _=>rfl) h1' hj
  have hrr:∀ w,Sat b F w→RR w t.rs[i]:=fun w H=>(hT w H).rr _ hrm
  have hrw:=hW.rw _ hrm;have hnm:=hk.k.nm t.rs[i].pl (anb.2 ⟨_,hrm,rfl⟩);generalize t.rs[i]=r at *;have htn:=hrw.tn;have hnr:mo (fe r.nm)=(0,0):=hnm.1;have hnt:∀ g∈r.ts,po (fe g.nm)=(0,0):=fun g hg=>hnm.2 g.pl (anb.2 ⟨g,hg,rfl⟩)
  refine ak <| ab <| ad <| am <| akw <| az Z ?_;refine fc Z (fun w H=>cg (cs:=rpC r) Z Z Z Z (fun j hj=>by rw [bq,am6];exact hcr w (H.ent (af 1 [] Z)) j hj)) Z ?_;refine b9 (fun w H=>(hrr w (H.ent (af 1 [] Z))).one) fun hone=> ?_;refine db Z Z Z Z Z fun g4=> ?_;refine fh 0 Z Z Z Z Z Z Z Z hone Z <| aan <| ae Z <| aan <| ae Z <| bt 0 Z Z Z <| bg Z Z Z (Af) ?_;rw [hnr];refine ae Z <| nq Z (sj Z Z (mq 0 0 0 0)) Z <| bm 39 (.bool false) Z Z <| am4 Z Z <| bt 0 Z Z Z <| ae Z <| bg Z Z Z (Xb (D:=r.ts) (p:=fun g=> !decide (po (fe g.nm)=(0,0))) (f:=dN) (pre:= []) (post:= []) (fun g hg B=>Qk) (fun _ _=>rfl) (fun w H=>(hrr w (H.ent (af 2 [] Z))).t) (by omega)) ?_;rw [aqx.2 fun g hg=>by simpa using hnt g hg];refine ae Z <| akv <| aj Z <| ak <| bh <| ab <| aa <| az Z <| ae Z <| ac ?_;refine cw (i+1) (af 2 [1] Z) (show i+1≤_ by omega)
 ·refine bz <| au <| av <| ap <| ab <| ad <| akw <| bt 0 Z Z Z <| bg Z Z Z (Qn hW hk.k.rs hk.k.nd hk.k.has (fun w H=>hT w (H.ent (af 1 [] Z)))) <| ae Z <| akv <| aj Z <| ak <| ab <| akw <| ae Z <| akv <| ai <| ar Z Z (af 1 [] Z) ?_;exact ⟨rfl,rfl⟩
end

theorem Jy {x:Hd}:∀ {l1 l2:List Hd},(∀ a∈l1,ltD a.d x.d)→(∀ a∈l2,¬ ltD a.d x.d)→q5 x (l1++l2)=l1++x::l2
 | [], [], _, _ => rfl
 | [], a :: l2, _, h => by rw [aos, q5, if_neg (h a anl)]; rfl
 | a :: l1, l2, h1, h2 => by
  rw [aoe,q5,if_pos (h1 a anl),Jy (fun y hy=>h1 y (ank _ hy)) h2];rfl
section
variable {b:World} {F:List SP} {l:List Hd} {x:Hd} {A:Option Addr} {c:Nat}
theorem Xf (hl:∀ h∈l,bX h) (hx:bX x) (hr:nk l) (hn:l.length≤100000):SC Tryz.prog Ct [.slice A l.length c,hdV x] b (row t_api_Held 34 (.slice A l.length c) l.length (wx l)::F) (fun u F'=>F'=rHs u (q5 x l)::F):=by
 have hz:∀ h∈l,(hdC h).length=34:=fun h hh=>mu (hl h hh).id.1
 have xl:=mu hx.id.1;refine aw Tryz.func141 Z Z Z <| akw <| bx Z Z Z Z Z fun g3=>ae Z <| aan <| ae Z ?_
 refine du 0 Z Z Z Z Z Z (dj (by rw [xl];rfl)) Z ?_;refine bf Z Z Z (aj0 (x:=x) (cm:=fun d=>ahD d.d x.d) (f:=aC) (fun d hd B=>Jv (hl d hd).id.1 hx.id.1) hz hx.id.1 (fun w H=>(H.oat (k:=1) Z).sl) (by omega) (fun i j hi hj hij h=>by
  exact gJ.2 (oW (aou.1 hr i j hi hj hij) (gJ.1 h)))) ?_
 rintro _ _ ⟨⟨l1,l2,hl12,h1,h2,rfl⟩,rfl⟩;have hins:q5 x l=l1++x::l2:=by
  rw [hl12];exact Jy (fun a ha=>gJ.1 (h1 a ha)) (fun a ha hc=>h2 a ha (gJ.2 hc))
 rw [hins];subst hl12
 (iterate 5 refine ae Z ?_)
 refine aan <| am4 Z Z ?_;refine du 0 Z Z Z Z Z Z (dj (by rw [xl];rfl)) Z ?_;refine lr Z Z Z Z Z Z Z xl (by decide) fun gl=>bf Z Z Z ((Zq (F:=pt g3 t_api_Held (hdC x)::F) (fun d hd=>hz d (an5 _ hd)) (fun d hd=>hz d (aoj _ hd)) xl (fun d _=>rg d) (rg x) (by omega)).ent (af 3 [2,0,1] Z)) ?_
 rintro v _ rfl;refine ae Z <| akv <| ai <| ar Z Z (af 2 [0] Z) ?_
 rfl
variable {e:Ev} {g4 g5 fa:Nat} {post:List Value} {q:Hd→Bool} [Bodied Tryz.prog fa]
abbrev jK (e:Ev) (q:Hd→Bool) (h:Hd):Bool:=fq e.deps h.d.1 h.d.2&&q h
theorem Uy (hx:bX x) (he:∀ w,Sat b F w→ER w e) (ha:∀ B:List SP,SC Tryz.prog fa ([hdV x]++post) b (B++F) (fun u F'=>u = .bool (q x)∧F'=B++F)) :
  SC Tryz.prog fE [hdV x,pp g4,pp g5] b (pt g5 p9 [.func (.func fa) ⟨[]⟩ ⟨post⟩]::pt g4 ba (evC e)::F) (fun u F'=>u = .bool (jK e q x)∧F'=pt g5 p9 [.func (.func fa) ⟨[]⟩ ⟨post⟩]::pt g4 ba (evC e)::F):=by
 have xl:=mu hx.id.1;refine aw Tryz.func226 Z Z Z <| akw <| bx Z Z Z Z Z fun g3=>ae Z <| aan <| ae Z <| bt 2 Z Z Z <| ae Z <| du 0 Z Z Z Z Z Z (Et x) Z <| bg Z Z Z (uE (fun w H=>(he w (H.ent (af 3 [] Z))).dv)) ?_
 unfold jK;cases fq e.deps x.d.1 x.d.2 with
 | false =>
  (iterate 6 refine ae Z ?_)
  refine akv <| ai <| ar Z Z (af 3 [1,2] Z) ?_;exact ⟨rfl,rfl⟩
 | true =>
  refine ae Z <| bt 1 Z Z Z ?_;refine du 0 Z Z Z Z Z Z (dj (by rw [xl];rfl)) Z ?_;refine bg Z Z Z (ha [_,_,_]) <| am4 Z Z <| akv <| ai <| ar Z Z (af 3 [1,2] Z) ?_;exact ⟨rfl,rfl⟩
theorem Ia (hl:∀ h∈l,bX h) (he:∀ w,Sat b F w→ER w e) (h32:e.id.length=32) (ha:∀ h∈l,∀ B:List SP,SC Tryz.prog fa ([hdV h]++post) b (B++F) (fun u F'=>u = .bool (q h)∧F'=B++F)) (hn:l.length≤100000) :
  SC Tryz.prog zM [.slice A l.length c,evV e,.func (.func fa) ⟨[]⟩ ⟨post⟩] b (row t_api_Held 34 (.slice A l.length c) l.length (wx l)::F) (fun u F'=>u = .slice A (l.filter fun h=> !jK e q h).length c∧F'=row t_api_Held 34 (.slice A (l.filter fun h=> !jK e q h).length c) (l.filter fun h=> !jK e q h).length (wx (l.filter fun h=> !jK e q h))::F):=by
 have hz:∀ h∈l,(hdC h).length=34:=fun h hh=>mu (hl h hh).id.1
 refine aw Tryz.func142 Z Z Z <| akw <| bx Z Z Z Z Z fun g4=>bx Z Z Z Z Z fun g5=>ae Z <| aan <| am4 Z Z ?_
 refine bf Z Z Z ((ajw (F:=pt g5 p9 [.func (.func fa) ⟨[]⟩ ⟨post⟩]::pt g4 ba (evC e)::F) (f:=fE) (p:=jK e q) (pre:= []) (post:= [pp g4,pp g5]) (fun h hh B=>by
  refine ((Uy (F:=B++F) (g4:=g4) (g5:=g5) (q:=q) (hl h hh) (fun w H=>he w (H.ent (qr B))) (fun B2=>by have:=ha h hh (B2++B);rw [anh] at this;exact this)).ent (je (an2.trans (List.Perm.cons _ an2)))).out ?_;rintro u _ ⟨h1,rfl⟩;exact ⟨_,je (an2.trans (List.Perm.cons _ an2)).symm,h1,rfl⟩) hz (fun d _=>rg d) hn).ent (af 3 [2,0,1] Z)) ?_
 rintro _ _ ⟨rfl,rfl⟩;refine ae Z <| akv <| ai <| ar Z Z (af 3 [0] Z) ?_;exact ⟨rfl,rfl⟩
theorem Uz {gE:Nat} (hx:bX x) (h32:e.id.length=32):SC Tryz.prog ug [hdV x,pp gE] b (pt gE ba (evC e)::F) (fun u F'=>u = .bool (decide (x.id=e.id))∧F'=pt gE ba (evC e)::F):=by
 refine aw Tryz.func143 Z Z Z <| akw <| bx Z Z Z Z Z fun g2=>ae Z <| aan <| ae Z <| du 0 Z Z Z Z Z Z (uU hx.id.1) Z <| ae Z <| du 1 Z Z Z Z Z Z (fU h32) Z <| nq Z (nT (as00:=x.id) (bs:=e.id) Z Z hx.id.1 h32) Z <| ae Z <| akv <| ai <| ar Z Z (af 2 [1] Z) ?_
 exact ⟨rfl,rfl⟩
end

def rp0 (s:ByteArray):Rp:=⟨s,.slice none 0 0,[],.slice none 0 0,[]⟩
def tg0 (s:ByteArray):Tg:=⟨s,.slice none 0 0,[]⟩
theorem Jz {s:ByteArray} {l1 l2:List Rp} {F:List SP}:Ent (all (rpF (l1++l2))::F) (all (rpF (l1++rp0 s::l2))::F):=by
 have hp:(rpF (l1++rp0 s::l2)).Perm ([all (rpP (rp0 s))]++rpF (l1++l2)):=by
  rw [dG,rpF,dG];exact an2
 refine Ent.trans (Ent.trans ?_ (eg (G:=rpP (rp0 s)))) (ny hp);exact ((eg (G:= [])).trans ((df t_api_Held 34 Z).trans (df dx 2 Z)))
theorem U0 {s:ByteArray} {l1 l2:List Tg} {F:List SP}:Ent (all (tgF (l1++l2))::F) (all (tgF (l1++tg0 s::l2))::F):=by
 have hp:(tgF (l1++tg0 s::l2)).Perm ([rHs (tg0 s).hv (tg0 s).hs]++tgF (l1++l2)):=by
  rw [dF,tgF,dF];exact an2
 exact Ent.trans (df t_api_Held 34 Z) (ny hp)
abbrev dkP (gd:Nat) (vv:Value) (A:Option Addr) (c:Nat) (rs:List Rp) (F:List SP):List SP:=pt gd il [vv,.slice A rs.length c]::row bi 3 (.slice A rs.length c) rs.length (oq rs)::all (rpF rs)::F
structure DK (k:Nat) (rs:List Rp):Prop where
 w:RSw (rs.map Rp.pl)
 r:∀ r∈rs,RW r
 n:rs.length≤k
 b:∀ r∈rs,r.ts.length≤k∧r.ms.length≤k∧∀ g∈r.ts,g.hs.length≤k
theorem DK.pw {k:Nat} {rs:List Rp} (h:DK k rs) {i j:Nat} (hi:i<rs.length) (hj:j<rs.length) (hij:i<j):cbN rs[i].nm rs[j].nm<0:=by
 have:=aou.1 h.w.rs i j (by rw [anf];exact hi) (by rw [anf];exact hj) hij;rwa [aox,aox] at this
theorem Qo {a s:ByteArray} (h:¬ cbN a s<0) (h0:cbN a s≠0):cbN s a<0:=by have:=wk a s;omega
theorem Xg (s:ByteArray) (hs:s.size≤1000):RW (rp0 s):=⟨by simp [rp0],by simp [rp0],fun g hg=>(by cases hg),fun g hg=>(by cases hg),fun g hg=>(by cases hg),hs,fun g hg=>(by cases hg)⟩
section
variable {b:World} {F:List SP} {gd:Nat} {vv:Value} {A:Option Addr} {c:Nat} {rs:List Rp} {s:ByteArray} {k:Nat}
def aka (k gd:Nat) (vv:Value) (rs:List Rp) (s:ByteArray) (F:List SP) (u:Value) (F':List SP):Prop :=
 ∃ g o c' l1 r l2,u = .pointer (some ⟨g,o+l1.length*3,none⟩)∧r.nm=s∧DK (k+1) (l1++r::l2)∧(∀ p,atP p ((l1++r::l2).map Rp.pl)=atP p (rs.map Rp.pl))∧(r∈rs∨r=rp0 s)∧F'=dkP gd vv (some ⟨g,o,none⟩) c' (l1++r::l2) F
theorem Ib (hk:DK k rs) (h9:k≤900) (hs:s.size≤1000):SC Tryz.prog iQ [pp gd,.string s] b (dkP gd vv A c rs F) (aka k gd vv rs s F):=by
 have hkn:=hk.n;refine aw Tryz.func140 Z Z Z <| akw <| ae Z <| aan <| am5 Z Z Z <| ae Z <| bt 0 Z Z Z <| ae Z <| bf Z Z Z (ajz (D:=rs) (cm:=fun r=>cbN r.nm s) (f:=um) (fun d _ B=>Ux) (fun _ _=>rfl) (fun w H=>(H.oat (k:=1) Z).sl) (by omega) (fun i j hi hj hij h=>qj (hk.pw hi hj hij) h)) ?_;rintro _ _ ⟨⟨l1,l2,hl12,h1,h2,rfl⟩,rfl⟩;refine b9 (p:=∀ x∈rs,∀ u∈rpC x,u.oneCell'=true) (fun w H x hx=>(H7 (k:=2) Z hx w H).one) fun hone=> ?_;by_cases hf:∃ a l2',l2=a::l2'∧cbN a.nm s=0
 ·obtain ⟨a,l2',rfl,ha⟩:=hf;rw [at0,ani ha];subst hl12;refine b9 (fun w H=>(H.oat (k:=1) Z).form) ?_;rintro ⟨_,_,hv,hnc,_,q3⟩;cases hv;have hlt:l1.length<(l1++a::l2').length:=by simp
  obtain ⟨gA,oA,rfl⟩:=q3 (by omega)
  (iterate 5 refine ae Z ?_)
  refine akv <| ad <| akw <| am4 Z Z <| akv <| aj Z <| ak <| ab <| akw <| am5 Z Z Z <| ae Z <| bt 0 Z Z Z <| ae Z <| az Z <| ae Z <| akv <| ai <| ar Z Z ax ?_;exact ⟨gA,oA,c,l1,a,l2',by rw [bq,am6];rfl,Aw ha,⟨hk.w,hk.r,by omega,fun r hr=>⟨by have:=(hk.b r hr).1;omega,by have:=(hk.b r hr).2.1;omega,fun g hg=>by have:=(hk.b r hr).2.2 g hg;omega⟩⟩,fun _=>rfl,.inl (by simp),rfl⟩
 ·have hmt:at0 (fun r:Rp=>cbN r.nm s) l2=false:=by
   cases l2 with
   | nil => rfl
   | cons a l2 => exact ans fun h0 => hf ⟨a, l2, rfl, h0⟩
  rw [hmt];have hgt:∀ x∈l2,cbN s x.nm<0:=by
   cases l2 with
   | nil => intro x hx; cases hx
   | cons a l2 =>
    have ha:=Qo (h2 a anl) fun h0=>hf ⟨a,l2,rfl,h0⟩
    intro x hx;rcases anj.1 hx with rfl | hx
    ·exact ha
    ·have hp:=hk.w.rs;rw [hl12,anu,ant] at hp;exact qj ha ((aod.1 (aof.1 hp).2.1).1 x.pl (anb.2 ⟨x,hx,rfl⟩))
  subst hl12;have hnew:=Er (A:=l1.map Rp.pl) (B:=l2.map Rp.pl) (s:=s) (by rw [← anu];exact hk.w) (fun x hx=>by
   obtain ⟨y,hy,rfl⟩:=anb.1 hx;exact h1 y hy) (fun x hx=>by
   obtain ⟨y,hy,rfl⟩:=anb.1 hx;exact hgt y hy)
  have hmap:(l1++rp0 s::l2).map Rp.pl=l1.map Rp.pl++⟨s,[],[]⟩::l2.map Rp.pl:=by rw [anu,ant];rfl
  have hll:(l1++rp0 s::l2).length=(l1++l2).length+1:=by simp;omega
  have hdk:DK (k+1) (l1++rp0 s::l2):=by
   refine ⟨by rw [hmap];exact hnew.1,fun r hr=> ?_,by omega,fun r hr=> ?_⟩;rcases anr.1 hr with hr | hr
   ·exact hk.r r (an5 _ hr)
   ·rcases anj.1 hr with rfl | hr
    ·exact Xg s hs
    ·exact hk.r r (aoj _ hr)
   ·have hold:∀ r∈l1++l2,r.ts.length≤k+1∧r.ms.length≤k+1∧∀ g∈r.ts,g.hs.length≤k+1:=fun r hr=>⟨by have:=(hk.b r hr).1;omega,by have:=(hk.b r hr).2.1;omega,fun g hg=>by have:=(hk.b r hr).2.2 g hg;omega⟩
    rcases anr.1 hr with hr | hr
    ·exact hold r (an5 _ hr)
    ·rcases anj.1 hr with rfl | hr
     ·exact ⟨by simp [rp0],by simp [rp0],fun g hg=>(by cases hg)⟩
     ·exact hold r (aoj _ hr)
  (iterate 5 refine ae Z ?_)
  refine akv <| ad <| akw <| am4 Z Z <| akv <| ao Z <| aa ?_
  (iterate 5 refine ae Z ?_)
  refine bt 0 Z Z Z <| am5 Z Z Z <| lr Z Z Z Z Z Z Z Z (by decide) fun gl=> ?_;refine bf Z Z Z ((Zp (l1:=l1) (l2:=l2) (x:=rp0 s) (gl:=gl) (F:=pt gd il [vv,.slice A (l1++l2).length c]::all (rpF (l1++l2))::F) (fun _ _=>rfl) (fun _ _=>rfl) Z (fun d hd=>hone d (aoj _ hd)) (fun u hu=>by
   simp only [rpC,rp0,anj,apb,or_false] at hu;rcases hu with rfl | rfl | rfl <;> rfl) (by omega)).ent (af 4 [2,0,1,3] Z)) ?_
  rintro v _ rfl;refine b9 (fun w H=>(H.oat (k:=0) Z).form) ?_;rintro ⟨A',c',rfl,hnc,_,q3⟩;obtain ⟨gA,oA,rfl⟩:=q3 (by omega);have hlt:l1.length<(l1++rp0 s::l2).length:=by simp
  refine am5 Z Z Z <| eu 1 Z Z Z Z <| aan <| am5 Z Z Z <| ae Z <| bt 1 Z Z Z <| ae Z <| az Z <| ae Z <| akv <| ai <| ar Z Z ((af 3 [2,1,0] Z).trans ((Jz (s:=s)).trans (af 3 [1,2,0] Z))) ?_;exact ⟨gA,oA,c',l1,rp0 s,l2,by rw [bq,am6];rfl,rfl,hdk,fun p=>by rw [hmap,hnew.2,anu],.inr rfl,rfl⟩
end
theorem Ba (P Q vs:List Value) (k:Nat):spl (P++Q) (P.length+k) vs=P++spl Q k vs:=by
 unfold spl;rw [aq4,show P.length+k+vs.length=P.length+(k+vs.length) by omega,List.drop_length_add_append];simp only [anh]
theorem z4 (l:List Rp):(oq l).length=l.length*3:=ju fun _ _=>rfl
theorem Bb (l:List Tg):(dE l).length=l.length*2:=ju fun _ _=>rfl
theorem Bc {l1 l2:List Rp} {r:Rp} {v:Value} (ts:List Tg):spl (oq (l1++r::l2)) (l1.length*3+1) [v]=oq (l1++⟨r.nm,v,ts,r.mv,r.ms⟩::l2):=by
 show spl (flC rpC _) _ _=flC rpC _;rw [fu,fu,← z4,Ba];rfl
theorem Be {l1 l2:List Rp} {r:Rp} {v:Value} (ms:List Hd):spl (oq (l1++r::l2)) (l1.length*3+2) [v]=oq (l1++⟨r.nm,r.tv,r.ts,v,ms⟩::l2):=by
 show spl (flC rpC _) _ _=flC rpC _;rw [fu,fu,← z4,Ba];rfl
theorem J0 {l1 l2:List Tg} {g:Tg} {v:Value} (hs:List Hd):spl (dE (l1++g::l2)) (l1.length*2+1) [v]=dE (l1++⟨g.nm,v,hs⟩::l2):=by
 show spl (flC tgC _) _ _=flC tgC _;rw [fu,fu,← Bb,Ba];rfl
abbrev opP (gd:Nat) (vv:Value) (g o c:Nat) (l1:List Rp) (r:Rp) (l2:List Rp) (F:List SP):List SP :=
 pt gd il [vv,.slice (some ⟨g,o,none⟩) (l1++r::l2).length c]::row bi 3 (.slice (some ⟨g,o,none⟩) (l1++r::l2).length c) (l1++r::l2).length (oq (l1++r::l2))::rTs r.tv r.ts::rHs r.mv r.ms::all (tgF r.ts)::all (rpF (l1++l2))::F
section
variable {b:World} {F:List SP} {gd g o c:Nat} {vv:Value} {l1 l2:List Rp} {r:Rp}
theorem dJ:(rpF (l1++r::l2)).Perm ([all (rpP r)]++rpF (l1++l2)):=by
 rw [dG,rpF,dG];exact an2
theorem Ic:Ent (dkP gd vv (some ⟨g,o,none⟩) c (l1++r::l2) F) (opP gd vv g o c l1 r l2 F) :=
 j4 (j4 ((qd dJ).trans (sk (G:=rpP r))))
theorem Id:Ent (opP gd vv g o c l1 r l2 F) (dkP gd vv (some ⟨g,o,none⟩) c (l1++r::l2) F) :=
 j4 (j4 ((eg (G:=rpP r)).trans (ny dJ)))
theorem Bg {k1 k2:List Tg} {y:Tg}:(tgF (k1++y::k2)).Perm ([rHs y.hv y.hs]++tgF (k1++k2)):=by
 rw [dF,tgF,dF];exact an2
end

def amz (k gd:Nat) (vv:Value) (rs:List Rp) (rp s:ByteArray) (F:List SP) (u:Value) (F':List SP):Prop :=
 ∃ g o c' l1 r l2 gT oT cT k1 y k2,u = .pointer (some ⟨gT,oT+k1.length*2,none⟩)∧r.nm=rp∧r.tv = .slice (some ⟨gT,oT,none⟩) r.ts.length cT∧r.ts=k1++y::k2∧y.nm=s∧DK (k+2) (l1++r::l2)∧(∀ p,atP p ((l1++r::l2).map Rp.pl)=atP p (rs.map Rp.pl))∧F'=opP gd vv g o c' l1 r l2 F
theorem DK.up {k j:Nat} {rs:List Rp} (h:DK k rs) (hj:k≤j):DK j rs:=⟨h.w,h.r,by have:=h.n;omega,fun r hr=>⟨by have:=(h.b r hr).1;omega,by have:=(h.b r hr).2.1;omega,fun g hg=>by have:=(h.b r hr).2.2 g hg;omega⟩⟩
theorem DK.chg {k j:Nat} {l1 l2:List Rp} {r r':Rp} (h:DK k (l1++r::l2)) (hw:RSw ((l1++r'::l2).map Rp.pl)) (hr:RW r') (hj:k≤j) (hb:r'.ts.length≤j∧r'.ms.length≤j∧∀ g∈r'.ts,g.hs.length≤j):DK j (l1++r'::l2):=by
 have h0:=h.up hj;have key:∀ x∈l1++r'::l2,x=r'∨x∈l1++r::l2:=fun x hx=>by
  rcases anr.1 hx with hx | hx
  ·exact .inr (an5 _ hx)
  ·rcases anj.1 hx with rfl | hx
   ·exact .inl Z
   ·exact .inr (aoj _ (ank _ hx))
 refine ⟨hw,fun x hx=> ?_,by have:=h0.n;simp only [am9,anp] at this ⊢;exact this,fun x hx=> ?_⟩
 ·rcases key x hx with rfl | hx
  ·exact hr
  ·exact h0.r x hx
 ·rcases key x hx with rfl | hx
  ·exact hb
  ·exact h0.b x hx
theorem kf (l1:List Rp) (r:Rp) (l2:List Rp):(l1++r::l2).map Rp.pl=l1.map Rp.pl++r.pl::l2.map Rp.pl:=by rw [anu,ant]
section
variable {b:World} {F:List SP} {gd:Nat} {vv:Value} {A:Option Addr} {c:Nat} {rs:List Rp} {rp s:ByteArray} {k:Nat}
theorem Xh (hk:DK k rs) (h9:k≤890) (hrp:rp.size≤1000) (hs:s.size≤1000):SC Tryz.prog jX [pp gd,.string rp,.string s] b (dkP gd vv A c rs F) (amz k gd vv rs rp s F):=by
 refine aw Tryz.func144 Z Z Z <| akw <| ae Z <| aan <| am4 Z Z <| bf Z Z Z (Ib hk (by omega) hrp) ?_;rintro _ _ ⟨g,o,c',l1,r,l2,rfl,hrn,hdk,hat,_,rfl⟩;refine eo Ic ?_;have hrm:r∈l1++r::l2:=by simp
 have hrw:=hdk.r r hrm;have hrb:=hdk.b r hrm;have hll:(l1++r::l2).length=l1.length+l2.length+1:=by simp;omega
 have hpt:r.pl.ts.Pairwise fun a b=>cbN a.nm b.nm<0:=(hdk.w.ok r.pl (anb.2 ⟨r,hrm,rfl⟩)).ts
 have hpw:∀ (i j:Nat) (hi:i<r.ts.length) (hj:j<r.ts.length),i<j→cbN r.ts[i].nm r.ts[j].nm<0:=fun i j hi hj hij=>by
  have:=aou.1 hpt i j (by rw [Rp.pl,anf];exact hi) (by rw [Rp.pl,anf];exact hj) hij;unfold Rp.pl at this;rwa [aox,aox] at this
 have hcell:∀ {F':List SP} {q n:Nat} (v1:Value) (ts:List Tg),n=(l1++r::l2).length→nth F' q=some (row bi 3 (.slice (some ⟨g,o,none⟩) n c') n (oq (l1++⟨r.nm,v1,ts,r.mv,r.ms⟩::l2)))→∀ w,Sat b F' w→w.cell? ⟨g,o+l1.length*3+1,none⟩=some v1:=fun v1 ts hn hq w H=>by
  have h1:=(H.oat hq).sl;subst hn;have hlen:(l1++r::l2).length=(l1++(⟨r.nm,v1,ts,r.mv,r.ms⟩:Rp)::l2).length:=by simp
  rw [hlen] at h1;have h2:=fb (f:=rpC) h1 (fun _ _=>rfl) (i:=l1.length) (by simp) (j:=1) (by omega);rw [h2];simp
 refine b9 (fun w H=>cp ((H.oat (k:=2) Z).sl)) ?_;rintro ⟨A3,c3,htv,_⟩;have hr0:(⟨r.nm,r.tv,r.ts,r.mv,r.ms⟩:Rp)=r:=rfl;refine ae Z <| aan <| am5 Z Z Z <| fc Z (fun w H=>br (v:=r.tv) Z Z Z (hcell (q:=1) r.tv r.ts Z Z w H)) Z <| ae Z ?_;refine bf Z Z Z (ajy (D:=r.ts) (cm:=fun y=>cbN y.nm s) (f:=vz) (fun d _ B=>Zr) (fun _ _=>rfl) (fun w H=>(H.oat (k:=2) Z).sl) (by have:=hrw.tn;omega) (fun i j hi hj hij h=>qj (hpw i j hi hj hij) h)) ?_;rintro _ _ ⟨⟨k1,k2,hk12,h1,h2,rfl⟩,rfl⟩;have htn:=hrw.tn;by_cases hf:∃ a k2',k2=a::k2'∧cbN a.nm s=0
 ·obtain ⟨a,k2',rfl,ha⟩:=hf;rw [at0,ani ha];have hlt:k1.length<r.ts.length:=by rw [hk12];simp
  refine b9 (fun w H=>(H.oat (k:=2) Z).form) ?_;rintro ⟨A4,c4,hv4,hnc,_,q3⟩;obtain ⟨gT,oT,rfl⟩:=q3 (by omega)
  (iterate 5 refine ae Z ?_)
  refine akv <| ad <| akw <| am4 Z Z <| akv <| aj Z <| ak <| ab <| akw <| am5 Z Z Z <| fc Z (fun w H=>br (v:=r.tv) Z Z Z (hcell (q:=1) r.tv r.ts Z Z w H)) Z <| bm 39 (.slice (some ⟨gT,oT,none⟩) r.ts.length c4) Z hv4 <| ae Z <| az Z <| ae Z <| akv <| ai <| ar Z Z ax ?_;exact ⟨g,o,c',l1,r,l2,gT,oT,c4,k1,a,k2',by rw [bq,am6];rfl,hrn,hv4,hk12,Aw ha,hdk.up (by omega),hat,rfl⟩
 have hmt:at0 (fun y:Tg=>cbN y.nm s) k2=false:=by
  cases k2 with
  | nil => rfl
  | cons a l2 => exact ans fun h0 => hf ⟨a, l2, rfl, h0⟩
 rw [hmt];have hgt:∀ x∈k2,cbN s x.nm<0:=by
  cases k2 with
  | nil => intro x hx; cases hx
  | cons a k2 =>
   have ha:=Qo (h2 a anl) fun h0=>hf ⟨a,k2,rfl,h0⟩
   intro x hx;rcases anj.1 hx with rfl | hx
   ·exact ha
   ·have hp:=hpt;unfold Rp.pl at hp;rw [hk12] at hp;dsimp only at hp;rw [anu,ant] at hp;exact qj ha ((aod.1 (aof.1 hp).2.1).1 x.pl (anb.2 ⟨x,hx,rfl⟩))
 refine b9 (p:=∀ x∈r.ts,∀ u∈tgC x,u.oneCell'=true) (fun w H x hx=>Az (H6 (k:=4) Z hx w H)) fun hone=> ?_;have hnew:=Jt (A:=l1.map Rp.pl) (B:=l2.map Rp.pl) (r:=r.pl) (A2:=k1.map Tg.pl) (B2:=k2.map Tg.pl) (s:=s) (by rw [← kf];exact hdk.w) (by show r.ts.map Tg.pl=_;rw [hk12,anu]) (fun x hx=>by
  obtain ⟨y,hy,rfl⟩:=anb.1 hx;exact h1 y hy) (fun x hx=>by
  obtain ⟨y,hy,rfl⟩:=anb.1 hx;exact hgt y hy)
 (iterate 5 refine ae Z ?_)
 refine akv <| ad <| akw <| am4 Z Z <| akv <| ao Z <| aa <| am5 Z Z Z <| ae Z <| fc Z (fun w H=>br (v:=r.tv) Z Z Z (hcell (q:=1) r.tv r.ts Z Z w H)) Z ?_;refine bm 28 (.slice A3 (k1++k2).length c3) Z (by rw [htv,hk12]) ?_;refine am5 Z Z Z <| lr Z Z Z Z Z Z Z Z (by decide) fun gl=> ?_;refine bf Z Z Z ((Zo (l1:=k1) (l2:=k2) (x:=tg0 s) (gl:=gl) (A:=A3) (c:=c3) (F:=pt gd il [vv,.slice (some ⟨g,o,none⟩) (l1++r::l2).length c']::row bi 3 (.slice (some ⟨g,o,none⟩) (l1++r::l2).length c') (l1++r::l2).length (oq (l1++r::l2))::rHs r.mv r.ms::all (tgF r.ts)::all (rpF (l1++l2))::F) (fun _ _=>rfl) (fun _ _=>rfl) Z (fun d hd=>hone d (by rw [hk12];exact aoj _ hd)) (fun u hu=>by
  simp only [tgC,tg0,anj,apb,or_false] at hu;rcases hu with rfl | rfl <;> rfl) (by rw [← hk12];omega)).ent (by rw [← hk12,← htv];exact af 7 [3,0,1,2,4,5,6] Z)) ?_
 rintro v _ rfl;refine b9 (fun w H=>(H.oat (k:=0) Z).form) ?_;rintro ⟨A',cT,rfl,hnc,_,q3⟩;have hlt:k1.length<(k1++tg0 s::k2).length:=by simp
 obtain ⟨gT,oT,rfl⟩:=q3 (by omega);refine am4 Z Z ?_;refine ym 2 (l1.length*3+1) Z Z Z Z Z Z Z Z (Bc (k1++tg0 s::k2)) Z (by rw [apv]) (by rw [z4,hll];simp only [anp,ao1];omega) (fun u hu=>by rw [anc.1 hu];rfl) ?_;refine aan <| am5 Z Z Z <| fc Z (fun w H=>br (v:= .slice (some ⟨gT,oT,none⟩) (k1++tg0 s::k2).length cT) Z Z Z (hcell (q:=2) _ (k1++tg0 s::k2) Z Z w H)) Z <| ae Z <| az Z <| ae Z <| akv <| ai ?_;have hll2:(l1++r::l2).length=(l1++(⟨r.nm,.slice (some ⟨gT,oT,none⟩) (k1++tg0 s::k2).length cT,k1++tg0 s::k2,r.mv,r.ms⟩:Rp)::l2).length:=by simp
 rw [hll2];refine ar Z Z (G:=opP gd vv g o c' l1 ⟨r.nm,.slice (some ⟨gT,oT,none⟩) (k1++tg0 s::k2).length cT,k1++tg0 s::k2,r.mv,r.ms⟩ l2 F) ?_ ?_
 ·rw [hk12];exact (af 6 [4,1,2,0,3,5] Z).trans ((U0 (s:=s)).trans (af 6 [1,2,3,4,0,5] Z))
 ·have hmap:(l1++(⟨r.nm,.slice (some ⟨gT,oT,none⟩) (k1++tg0 s::k2).length cT,k1++tg0 s::k2,r.mv,r.ms⟩:Rp)::l2).map Rp.pl=l1.map Rp.pl++⟨r.pl.nm,k1.map Tg.pl++⟨s,[]⟩::k2.map Tg.pl,r.pl.ms⟩::l2.map Rp.pl:=by
   rw [kf];unfold Rp.pl;dsimp only;rw [anu,ant];rfl
  have hmem:∀ y∈k1++tg0 s::k2,y=tg0 s∨y∈r.ts:=fun y hy=>by
   rw [hk12];rcases anr.1 hy with hy | hy
   ·exact .inr (an5 _ hy)
   ·rcases anj.1 hy with rfl | hy
    ·exact .inl Z
    ·exact .inr (aoj _ hy)
  have hkl:(k1++tg0 s::k2).length=r.ts.length+1:=by rw [hk12];simp;omega
  refine ⟨g,o,c',l1,⟨r.nm,.slice (some ⟨gT,oT,none⟩) (k1++tg0 s::k2).length cT,k1++tg0 s::k2,r.mv,r.ms⟩,l2,gT,oT,cT,k1,tg0 s,k2,by rw [bq,am6];rfl,hrn,rfl,rfl,rfl,hdk.chg (r':=⟨r.nm,.slice (some ⟨gT,oT,none⟩) (k1++tg0 s::k2).length cT,k1++tg0 s::k2,r.mv,r.ms⟩) (by rw [hmap];exact hnew.1) ⟨by dsimp only;omega,hrw.mn,fun y hy=> ?_,hrw.mh,fun y hy=> ?_,hrw.ns,fun y hy=> ?_⟩ (by omega) ⟨by dsimp only;omega,by dsimp only;omega,fun y hy=> ?_⟩,fun p=>by rw [hmap,hnew.2,← kf,hat],rfl⟩
  ·rcases hmem y hy with rfl | hy
   ·simp [tg0]
   ·exact hrw.gn y hy
  ·rcases hmem y hy with rfl | hy
   ·intro h hh;cases hh
   ·exact hrw.gh y hy
  ·rcases hmem y hy with rfl | hy
   ·exact hs
   ·exact hrw.gs y hy
  ·rcases hmem y hy with rfl | hy
   ·simp [tg0]
   ·have:=hrb.2.2 y hy;omega
end

theorem Ie {e:Ev} (h:EW e):bX (hdE e):=⟨h.dot,h.id⟩
theorem Zu {e:Ev} (h:e.kind=1) (p:Pl) (l:List Hd):uc e p l=if p=⟨e.repo,none⟩ then q5 (hdE e) l else l:=by
 unfold uc;by_cases hp:p=⟨e.repo,none⟩
 ·rw [if_pos ⟨h,hp⟩,if_pos hp]
 ·rw [if_neg fun hc=>hp hc.2,if_neg (by omega),if_neg (by omega),if_neg (by omega),if_neg hp]
theorem Zv {e:Ev} (h:e.kind=2) (p:Pl) (l:List Hd):uc e p l=if p=⟨e.repo,none⟩ then wn e l else l:=by
 unfold uc;by_cases hp:p=⟨e.repo,none⟩
 ·rw [if_neg (by omega),if_pos ⟨h,hp⟩,if_pos hp]
 ·rw [if_neg (by omega),if_neg fun hc=>hp hc.2,if_neg (by omega),if_neg (by omega),if_neg hp]
theorem Qq {e:Ev} (h:e.kind=3) (p:Pl) (l:List Hd):uc e p l=if p=⟨e.repo,some e.tag⟩ then q5 (hdE e) (wm e l) else l:=by
 unfold uc;by_cases hp:p=⟨e.repo,some e.tag⟩
 ·rw [if_neg (by omega),if_neg (by omega),if_pos ⟨h,hp⟩,if_pos hp]
 ·rw [if_neg (by omega),if_neg (by omega),if_neg fun hc=>hp hc.2,if_neg (by omega),if_neg hp]
theorem Qr {e:Ev} (h:e.kind=4) (p:Pl) (l:List Hd):uc e p l=if p=⟨e.repo,some e.tag⟩ then wm e l else l:=by
 unfold uc;by_cases hp:p=⟨e.repo,some e.tag⟩
 ·rw [if_neg (by omega),if_neg (by omega),if_neg (by omega),if_pos ⟨h,hp⟩,if_pos hp]
 ·rw [if_neg (by omega),if_neg (by omega),if_neg (by omega),if_neg fun hc=>hp hc.2,if_neg hp]
theorem Qs {A B:List RP} {r:RP} (h:RSw (A++r::B)):atP ⟨r.nm,none⟩ (A++r::B)=r.ms:=by
 rw [vj (bW (f:=RP.nm) h.rs).1,if_pos rfl];rfl
theorem Xi {A B:List RP} {r:RP} {A2 B2:List TG} {g:TG} (h:RSw (A++r::B)) (hr:r.ts=A2++g::B2):atP ⟨r.nm,some g.nm⟩ (A++r::B)=g.hs:=by
 rw [vj (bW (f:=RP.nm) h.rs).1,if_pos rfl];show m7 g.nm r.ts=_;have hts:=(h.ok r (by simp)).ts;rw [hr] at hts ⊢;rw [bV (bW (f:=TG.nm) hts).1,if_pos rfl]
def Ew (k gd:Nat) (vv:Value) (rs:List Rp) (e:Ev) (F F':List SP):Prop :=
 ∃ g o c' rs',DK (k+3) rs'∧(∀ p,atP p (rs'.map Rp.pl)=uc e p (atP p (rs.map Rp.pl)))∧F'=dkP gd vv (some ⟨g,o,none⟩) c' rs' F
theorem uY (h:Hd):∀ l:List Hd,(q5 h l).length=l.length+1
 | [] => rfl
 | x :: l => by
  rw [q5];split
  ·rw [anp,uY h l,anp]
  ·rfl
section
variable {b:World} {F:List SP} {gd:Nat} {vv:Value} {A:Option Addr} {c:Nat} {rs:List Rp} {e:Ev} {k:Nat}
theorem nB {F':List SP} {q g o c n:Nat} {l1 l2:List Rp} {r:Rp} {j:Nat} (hq:nth F' q=some (row bi 3 (.slice (some ⟨g,o,none⟩) n c) n (oq (l1++r::l2)))) (hn:n=(l1++r::l2).length) (hj:j<3):∀ w,Sat b F' w→w.cell? ⟨g,o+l1.length*3+j,none⟩=(rpC r)[j]?:=fun w H=>by
 have h1:=(H.oat hq).sl;subst hn;have h2:=fb (f:=rpC) h1 (fun _ _=>rfl) (i:=l1.length) (by simp) (j:=j) hj;rw [h2];simp
theorem J1 {F':List SP} {q g o c n:Nat} {l1 l2:List Tg} {r:Tg} {j:Nat} (hq:nth F' q=some (row dx 2 (.slice (some ⟨g,o,none⟩) n c) n (dE (l1++r::l2)))) (hn:n=(l1++r::l2).length) (hj:j<2):∀ w,Sat b F' w→w.cell? ⟨g,o+l1.length*2+j,none⟩=(tgC r)[j]?:=fun w H=>by
 have h1:=(H.oat hq).sl;subst hn;have h2:=fb (f:=tgC) h1 (fun _ _=>rfl) (i:=l1.length) (by simp) (j:=j) hj;rw [h2];simp
theorem Zw (hk:DK k rs) (h9:k≤800) (hew:EW e) (hr:e.repo.size≤1000) (h1:e.kind=1) (hfr:∀ p,∀ x∈atP p (rs.map Rp.pl),x.d≠dotE e):SC Tryz.prog iI [pp gd,evV e] b (dkP gd vv A c rs F) (fun _ F'=>Ew k gd vv rs e F F'):=by
 have h32:=hew.l32;have hho:=Ie hew;have xl:=mu hho.id.1;refine aw Tryz.func55 Z Z Z <| akw <| bx Z Z Z Z Z fun g3=>aan <| am4 Z Z <| bt 0 Z Z Z <| bf Z Z Z ((Ib (F:=pt g3 ba (evC e)::F) hk (by omega) hr).ent (af 4 [1,2,3,0] Z)) ?_
 rintro _ _ ⟨g,o,c',l1,r,l2,rfl,hrn,hdk,hat,_,rfl⟩;refine eo Ic ?_;have hrm:r∈l1++r::l2:=by simp
 have hrw:=hdk.r r hrm;have hrb:=hdk.b r hrm;have hll:(l1++r::l2).length=l1.length+l2.length+1:=by simp;omega
 have hdw:=hdk.w;rw [kf] at hdw;have hms:nk r.ms:=(hdw.ok r.pl (by simp)).ms;have hfm:∀ x∈r.ms,x.d≠dotE e:=fun x hx=>hfr ⟨r.nm,none⟩ x (by rw [← hat,kf];exact (Qs (r:=r.pl) hdw).symm▸hx)
 refine b9 (fun w H=>cp ((H.oat (k:=3) Z).sl)) ?_;rintro ⟨A5,c5,hmv,_⟩;refine ae Z <| akv <| jc flo 11 (row bi 3 (.slice (some ⟨g,o,none⟩) (l1++r::l2).length c') (l1++r::l2).length (oq (l1++r::l2))::pt g3 ba (evC e)::F) [] Z (by decide +kernel) (af 7 [1,6] Z) <| ay Z Zl <| ay Z Zl <| ay Z Zl <| ay Z Zl <| ij Z (fun w H=>br (v:=r.mv) Z Z Z ((nB (q:=0) (j:=2) Z Z (by omega) w H).trans Z)) Z Z <| cz 13 (.slice A5 r.ms.length c5) Z hmv <| ay Z Zl <| cl 1 Z Z Z Z <| ay Z Zl <| js 1 Z Z Z Z Z Z (fU h32) Z Z ?_;refine aas Z Z Z Z ⟨rfl,(by show (u8s e.id).length=32;rw [dr,h32]),trivial⟩ ?_;refine cz 18 (hdV (hdE e)) Z Z ?_;refine d9 Z Z Z Z ((Xf (A:=A5) (c:=c5) (F:=pt gd il [vv,.slice (some ⟨g,o,none⟩) (l1++r::l2).length c']::row bi 3 (.slice (some ⟨g,o,none⟩) (l1++r::l2).length c') (l1++r::l2).length (oq (l1++r::l2))::rTs r.tv r.ts::all (tgF r.ts)::all (rpF (l1++l2))::pt g3 ba (evC e)::F) hrw.mh hho hms (by have:=hrw.mn;omega)).ent (by rw [← hmv];exact af 7 [3,0,1,2,4,5,6] Z)) ?_;rintro v _ rfl;refine ⟨af 7 [2,6] rfl,(aq <| jd Z (dc _) <| ix (fun w H=>(H.oat (k:=0) Z).form) ?_)⟩;rintro ⟨A',c6,rfl,_,_,_⟩;refine ay Z Zl <| ay Z Zl ?_;refine me 2 (l1.length*3+2) Z Z Z Z Z Z Z Z Z (Be (q5 (hdE e) r.ms)) Z (by rw [apv]) (by rw [z4,hll];simp only [anp,ao1];omega) (fun u hu=>by rw [anc.1 hu];rfl) (dc _) ?_;refine aq ?_
 skip
 have hnew:=Qg (r:=r.pl) (m:=q5 (hdE e) r.ms) hdw (oY hms hfm);have hmap:(l1++(⟨r.nm,r.tv,r.ts,.slice A' (q5 (hdE e) r.ms).length c6,q5 (hdE e) r.ms⟩:Rp)::l2).map Rp.pl=l1.map Rp.pl++⟨r.pl.nm,r.pl.ts,q5 (hdE e) r.ms⟩::l2.map Rp.pl:=kf _ _ _;have hll2:(l1++r::l2).length=(l1++(⟨r.nm,r.tv,r.ts,.slice A' (q5 (hdE e) r.ms).length c6,q5 (hdE e) r.ms⟩:Rp)::l2).length:=by simp
 rw [hll2];have hil:=uY (hdE e) r.ms;have hmn:=hrw.mn;refine jb Z .nil (G:=dkP gd vv (some ⟨g,o,none⟩) c' (l1++(⟨r.nm,r.tv,r.ts,.slice A' (q5 (hdE e) r.ms).length c6,q5 (hdE e) r.ms⟩:Rp)::l2) F) ((af 7 [1,2,3,0,4,5] Z).trans Id) ?_;refine ⟨g,o,c',_,hdk.chg (r':=⟨r.nm,r.tv,r.ts,.slice A' (q5 (hdE e) r.ms).length c6,q5 (hdE e) r.ms⟩) (by rw [hmap];exact hnew.1) ⟨hrw.tn,by dsimp only;omega,hrw.gn,fun h hh=> ?_,hrw.gh,hrw.ns,hrw.gs⟩ (by omega) ⟨by dsimp only;omega,by dsimp only;omega,fun g hg=>by have:=hrb.2.2 g hg;omega⟩,fun p=> ?_,rfl⟩
 ·rcases bU.1 hh with rfl | hh
  ·exact hho
  ·exact hrw.mh h hh
 ·rw [hmap,hnew.2,Zu h1,← hat,kf];show (if p=⟨r.nm,none⟩ then _ else _)=_;rw [hrn]
  split
  ·rename_i hp
   rw [hp,← hrn];exact am7 (q5 (hdE e)) (Qs (r:=r.pl) hdw).symm
  ·rfl
theorem Zx (hk:DK k rs) (h9:k≤800) (hew:EW e) (hr:e.repo.size≤1000) (h1:e.kind=2) (he:∀ w,Sat b F w→ER w e):SC Tryz.prog iJ [pp gd,evV e] b (dkP gd vv A c rs F) (fun _ F'=>Ew k gd vv rs e F F'):=by
 have h32:=hew.l32;have el:=di h32;refine aw Tryz.func56 Z Z Z <| akw <| bx Z Z Z Z Z fun g3=>aan <| am4 Z Z <| bt 0 Z Z Z <| bf Z Z Z ((Ib (F:=pt g3 ba (evC e)::F) hk (by omega) hr).ent (af 4 [1,2,3,0] Z)) ?_
 rintro _ _ ⟨g,o,c',l1,r,l2,rfl,hrn,hdk,hat,_,rfl⟩;refine eo Ic ?_;have hrm:r∈l1++r::l2:=by simp
 have hrw:=hdk.r r hrm;have hrb:=hdk.b r hrm;have hll:(l1++r::l2).length=l1.length+l2.length+1:=by simp;omega
 have hdw:=hdk.w;rw [kf] at hdw;have hms:nk r.ms:=(hdw.ok r.pl (by simp)).ms;refine b9 (fun w H=>cp ((H.oat (k:=3) Z).sl)) ?_;rintro ⟨A5,c5,hmv,_⟩;refine ae Z <| akv <| jc flo 8 (row bi 3 (.slice (some ⟨g,o,none⟩) (l1++r::l2).length c') (l1++r::l2).length (oq (l1++r::l2))::pt g3 ba (evC e)::F) [] Z (by decide +kernel) (af 7 [1,6] Z) <| ay Z Zl <| ay Z Zl <| ay Z Zl <| ay Z Zl <| ij Z (fun w H=>br (v:=r.mv) Z Z Z ((nB (q:=0) (j:=2) Z Z (by omega) w H).trans Z)) Z Z <| cz 13 (.slice A5 r.ms.length c5) Z hmv ?_;refine js 1 Z Z Z Z Z Z (dj (by rw [el];rfl)) Z Z ?_;refine ay Z Zl ?_;refine d9 Z Z Z Z ((Ia (A:=A5) (c:=c5) (q:=fun h=>decide (h.id=e.id)) (post:= [pp g3]) (fa:=ug) (F:=pt gd il [vv,.slice (some ⟨g,o,none⟩) (l1++r::l2).length c']::row bi 3 (.slice (some ⟨g,o,none⟩) (l1++r::l2).length c') (l1++r::l2).length (oq (l1++r::l2))::rTs r.tv r.ts::all (tgF r.ts)::all (rpF (l1++l2))::pt g3 ba (evC e)::F) hrw.mh (fun w H=>he w (H.ent (af 6 [] Z))) h32 (fun h hh B=>by
  have hp:∀ {X:List SP} {a1 a2 a3 a4 a5:SP},(B++a1::a2::a3::a4::a5::pt g3 ba (evC e)::X).Perm (pt g3 ba (evC e)::(B ++ [a1,a2,a3,a4,a5]++X)):=fun {X a1 a2 a3 a4 a5}=>by
   have:=an2 (a:=pt g3 ba (evC e)) (l₁:=B ++ [a1,a2,a3,a4,a5]) (l₂:=X);simpa using this
  refine ((Uz (hrw.mh h hh) h32).ent (je hp)).out ?_;rintro u _ ⟨q1,rfl⟩;exact ⟨_,je hp.symm,q1,rfl⟩) (by have:=hrw.mn;omega)).ent (by rw [← hmv];exact af 7 [3,0,1,2,4,5,6] Z)) ?_
 rintro _ _ ⟨rfl,rfl⟩;refine ⟨af 7 [2,6] rfl,?_⟩;have hfe:(r.ms.filter fun h=> !jK e (fun h=>decide (h.id=e.id)) h)=wn e r.ms:=rfl;rw [hfe];have hgl:(wn e r.ms).length≤r.ms.length:=apc _ _;refine aq <| jd Z (dc _) <| ay Z Zl <| ay Z Zl ?_;refine me 2 (l1.length*3+2) Z Z Z Z Z Z Z Z Z (Be (wn e r.ms)) Z (by rw [apv]) (by rw [z4,hll];simp only [anp,ao1];omega) (fun u hu=>by rw [anc.1 hu];rfl) (dc _) ?_;refine aq ?_
 skip
 have hnew:=Qg (r:=r.pl) (m:=wn e r.ms) hdw (ao4 _ hms);have hmap:(l1++(⟨r.nm,r.tv,r.ts,.slice A5 (wn e r.ms).length c5,wn e r.ms⟩:Rp)::l2).map Rp.pl=l1.map Rp.pl++⟨r.pl.nm,r.pl.ts,wn e r.ms⟩::l2.map Rp.pl:=kf _ _ _;have hll2:(l1++r::l2).length=(l1++(⟨r.nm,r.tv,r.ts,.slice A5 (wn e r.ms).length c5,wn e r.ms⟩:Rp)::l2).length:=by simp
 rw [hll2];have hmn:=hrw.mn;refine jb Z .nil (G:=dkP gd vv (some ⟨g,o,none⟩) c' (l1++(⟨r.nm,r.tv,r.ts,.slice A5 (wn e r.ms).length c5,wn e r.ms⟩:Rp)::l2) F) ((af 7 [1,2,3,0,4,5] Z).trans Id) ?_;refine ⟨g,o,c',_,hdk.chg (r':=⟨r.nm,r.tv,r.ts,.slice A5 (wn e r.ms).length c5,wn e r.ms⟩) (by rw [hmap];exact hnew.1) ⟨hrw.tn,by dsimp only;omega,hrw.gn,fun h hh=>hrw.mh h (anx.1 hh).1,hrw.gh,hrw.ns,hrw.gs⟩ (by omega) ⟨by dsimp only;omega,by dsimp only;omega,fun g hg=>by have:=hrb.2.2 g hg;omega⟩,fun p=> ?_,rfl⟩;rw [hmap,hnew.2,Zv h1,← hat,kf];show (if p=⟨r.nm,none⟩ then _ else _)=_;rw [hrn]
 split
 ·rename_i hp
  rw [hp,← hrn];exact am7 (wn e) (Qs (r:=r.pl) hdw).symm
 ·rfl
end

theorem Ey (e:Ev) (l:List Hd):(l.filter fun h=> !jK e (fun _=>true) h)=wm e l:=by
 unfold wm jK;simp
abbrev wgP (gd:Nat) (vv:Value) (g o c gT oT cT:Nat) (l1:List Rp) (r:Rp) (l2:List Rp) (k1:List Tg) (y:Tg) (k2:List Tg) (F:List SP):List SP :=
 pt gd il [vv,.slice (some ⟨g,o,none⟩) (l1++r::l2).length c]::row bi 3 (.slice (some ⟨g,o,none⟩) (l1++r::l2).length c) (l1++r::l2).length (oq (l1++r::l2))::row dx 2 (.slice (some ⟨gT,oT,none⟩) (k1++y::k2).length cT) (k1++y::k2).length (dE (k1++y::k2))::rHs y.hv y.hs::rHs r.mv r.ms::all (tgF (k1++k2))::all (rpF (l1++l2))::F
section
variable {b:World} {F:List SP} {gd g o gT oT cT c:Nat} {vv:Value} {l1 l2:List Rp} {r:Rp} {k1 k2:List Tg} {y:Tg}
theorem Qt (h1:r.tv = .slice (some ⟨gT,oT,none⟩) r.ts.length cT) (h2:r.ts=k1++y::k2):Ent (opP gd vv g o c l1 r l2 F) (wgP gd vv g o c gT oT cT l1 r l2 k1 y k2 F):=by
 unfold opP;rw [h1,h2];exact (af 6 [4,0,1,2,3,5] Z).trans ((qd Bg).trans (af 7 [2,3,4,0,5,1,6] Z))
theorem Qu {hs:List Hd} {v:Value} (h1:r.tv = .slice (some ⟨gT,oT,none⟩) (k1++y::k2).length cT):Ent (pt gd il [vv,.slice (some ⟨g,o,none⟩) (l1++r::l2).length c]::row bi 3 (.slice (some ⟨g,o,none⟩) (l1++r::l2).length c) (l1++r::l2).length (oq (l1++r::l2))::row dx 2 (.slice (some ⟨gT,oT,none⟩) (k1++y::k2).length cT) (k1++y::k2).length (dE (k1++⟨y.nm,v,hs⟩::k2))::rHs v hs::rHs r.mv r.ms::all (tgF (k1++k2))::all (rpF (l1++l2))::F)
  (dkP gd vv (some ⟨g,o,none⟩) c (l1++⟨r.nm,r.tv,k1++⟨y.nm,v,hs⟩::k2,r.mv,r.ms⟩::l2) F):=by
 refine Ent.trans ?_ Id;unfold opP rTs;have e1:oq (l1++⟨r.nm,r.tv,k1++⟨y.nm,v,hs⟩::k2,r.mv,r.ms⟩::l2)=oq (l1++r::l2):=by
  show flC rpC _=flC rpC _;rw [fu,fu];rfl
 have e2:(l1++(⟨r.nm,r.tv,k1++⟨y.nm,v,hs⟩::k2,r.mv,r.ms⟩:Rp)::l2).length=(l1++r::l2).length:=by simp
 have e3:(k1++(⟨y.nm,v,hs⟩:Tg)::k2).length=(k1++y::k2).length:=by simp
 rw [e1,e2];dsimp only;rw [h1,e3];exact (af 7 [3,5,0,1,2,4,6] Z).trans ((ny (A:=tgF (k1++⟨y.nm,v,hs⟩::k2)) Bg).trans (af 6 [1,2,3,4,0,5] Z))
end
section
variable {b:World} {F:List SP} {gd:Nat} {vv:Value} {A:Option Addr} {c:Nat} {rs:List Rp} {e:Ev} {k:Nat}
theorem Ez {g o c':Nat} {l1 l2:List Rp} {r:Rp} {k1 k2:List Tg} {y:Tg} {v:Value} {hs:List Hd} (hdk:DK (k+2) (l1++r::l2)) (h9:k≤800) (hts:r.ts=k1++y::k2) (hrn:r.nm=e.repo) (hyn:y.nm=e.tag)
  (hat:∀ p,atP p ((l1++r::l2).map Rp.pl)=atP p (rs.map Rp.pl)) (hok:∀ h∈hs,bX h) (hl:hs.length≤y.hs.length+1) (hr:nk hs) (hu:∀ p l,p=⟨e.repo,some e.tag⟩→l=y.hs→uc e p l=hs) (hu2:∀ p l,p≠⟨e.repo,some e.tag⟩→uc e p l=l):Ew k gd vv rs e F (dkP gd vv (some ⟨g,o,none⟩) c' (l1++⟨r.nm,r.tv,k1++⟨y.nm,v,hs⟩::k2,r.mv,r.ms⟩::l2) F):=by
 have hrm:r∈l1++r::l2:=by simp
 have hrw:=hdk.r r hrm;have hrb:=hdk.b r hrm;have hym:y∈r.ts:=by rw [hts];simp
 have hyb:=hrb.2.2 y hym;have hdw:=hdk.w;rw [kf] at hdw;have hpts:r.pl.ts=k1.map Tg.pl++y.pl::k2.map Tg.pl:=by show r.ts.map Tg.pl=_;rw [hts,anu,ant]
 have hnew:=W7 hdw hpts hr;have hmap:(l1++(⟨r.nm,r.tv,k1++⟨y.nm,v,hs⟩::k2,r.mv,r.ms⟩:Rp)::l2).map Rp.pl=l1.map Rp.pl++⟨r.pl.nm,k1.map Tg.pl++⟨y.pl.nm,hs⟩::k2.map Tg.pl,r.pl.ms⟩::l2.map Rp.pl:=by
  rw [kf];unfold Rp.pl;dsimp only;rw [anu,ant];rfl
 have hmem:∀ z∈k1++(⟨y.nm,v,hs⟩:Tg)::k2,z=⟨y.nm,v,hs⟩∨z∈r.ts:=fun z hz=>by
  rw [hts];rcases anr.1 hz with hz | hz
  ·exact .inr (an5 _ hz)
  ·rcases anj.1 hz with rfl | hz
   ·exact .inl Z
   ·exact .inr (aoj _ (ank _ hz))
 have hkl:(k1++(⟨y.nm,v,hs⟩:Tg)::k2).length=r.ts.length:=by rw [hts];simp
 have hb1:=hrb.1;have hb2:=hrb.2.1;refine ⟨g,o,c',_,hdk.chg (r':=⟨r.nm,r.tv,k1++⟨y.nm,v,hs⟩::k2,r.mv,r.ms⟩) (by rw [hmap];exact hnew.1) ⟨by dsimp only;omega,by dsimp only;omega,fun z hz=> ?_,hrw.mh,fun z hz=> ?_,hrw.ns,fun z hz=> ?_⟩ (by omega) ⟨by dsimp only;omega,by dsimp only;omega,fun z hz=> ?_⟩,fun p=> ?_,rfl⟩
 ·rcases hmem z hz with rfl | hz
  ·dsimp only;omega
  ·exact hrw.gn z hz
 ·rcases hmem z hz with rfl | hz
  ·exact hok
  ·exact hrw.gh z hz
 ·rcases hmem z hz with rfl | hz
  ·exact hrw.gs y hym
  ·exact hrw.gs z hz
 ·rcases hmem z hz with rfl | hz
  ·dsimp only;omega
  ·have:=hrb.2.2 z hz;omega
 ·rw [hmap,hnew.2,← hat,kf];show (if p=⟨r.nm,some y.nm⟩ then _ else _)=_;rw [hrn,hyn]
  split
  ·rename_i hp
   refine (hu p _ hp ?_).symm;rw [hp,← hrn,← hyn];exact Xi (r:=r.pl) (g:=y.pl) hdw hpts
  ·rename_i hp
   exact (hu2 p _ hp).symm
theorem U1 (hk:DK k rs) (h9:k≤800) (hew:EW e) (hr:e.repo.size≤1000) (ht:e.tag.size≤1000) (h1:e.kind=3) (he:∀ w,Sat b F w→ER w e) (hfr:∀ p,∀ x∈atP p (rs.map Rp.pl),x.d≠dotE e):SC Tryz.prog eP [pp gd,evV e] b (dkP gd vv A c rs F) (fun _ F'=>Ew k gd vv rs e F F'):=by
 have h32:=hew.l32;have el:=di h32;have hho:=Ie hew;have xl:=mu hho.id.1;refine aw Tryz.func57 Z Z Z <| akw <| bx Z Z Z Z Z fun g3=>aan <| am4 Z Z <| bt 0 Z Z Z <| ae Z <| bt 0 Z Z Z <| bf Z Z Z ((Xh (F:=pt g3 ba (evC e)::F) hk (by omega) hr ht).ent (af 4 [1,2,3,0] Z)) ?_
 rintro _ _ ⟨g,o,c',l1,r,l2,gT,oT,cT,k1,y,k2,rfl,hrn,htv,hts,hyn,hdk,hat,rfl⟩;refine eo (Qt htv hts) ?_;have hrw:=hdk.r r (by simp);have hym:y∈r.ts:=by rw [hts];simp
 have hyn9:=hrw.gn y hym;have hyh:=hrw.gh y hym;have hdw:=hdk.w;rw [kf] at hdw;have hyr:nk y.hs:=(hdw.ok r.pl (by simp)).th y.pl (anb.2 ⟨y,hym,rfl⟩);have hfy:∀ x∈y.hs,x.d≠dotE e:=fun x hx=>hfr ⟨r.nm,some y.nm⟩ x (by
  rw [← hat,kf];exact (Xi (r:=r.pl) (g:=y.pl) (A2:=k1.map Tg.pl) (B2:=k2.map Tg.pl) hdw (by show r.ts.map Tg.pl=_;rw [hts,anu,ant])).symm▸hx)
 have htl:(k1++y::k2).length=k1.length+k2.length+1:=by simp;omega
 refine b9 (fun w H=>cp ((H.oat (k:=3) Z).sl)) ?_;rintro ⟨A5,c5,hyv,_⟩;refine ae Z <| akv <| jc flo 13 (row dx 2 (.slice (some ⟨gT,oT,none⟩) (k1++y::k2).length cT) (k1++y::k2).length (dE (k1++y::k2))::pt g3 ba (evC e)::F) [] Z (by decide +kernel) (af 8 [2,7] Z) <| ay Z Zl <| ay Z Zl <| ay Z Zl <| ay Z Zl <| ij Z (fun w H=>br (v:=y.hv) Z Z Z ((J1 (q:=0) (j:=1) Z Z (by omega) w H).trans Z)) Z Z <| cz 15 (.slice A5 y.hs.length c5) Z hyv ?_;refine js 1 Z Z Z Z Z Z (dj (by rw [el];rfl)) Z Z ?_;refine d9 Z Z Z Z ((Ia (A:=A5) (c:=c5) (q:=fun _=>true) (post:= []) (fa:=cR) (F:=pt gd il [vv,.slice (some ⟨g,o,none⟩) (l1++r::l2).length c']::row bi 3 (.slice (some ⟨g,o,none⟩) (l1++r::l2).length c') (l1++r::l2).length (oq (l1++r::l2))::row dx 2 (.slice (some ⟨gT,oT,none⟩) (k1++y::k2).length cT) (k1++y::k2).length (dE (k1++y::k2))::rHs r.mv r.ms::all (tgF (k1++k2))::all (rpF (l1++l2))::pt g3 ba (evC e)::F) hyh (fun w H=>he w (H.ent (af 7 [] Z))) h32 (fun h hh B=>Ql (hyh h hh).id.1) (by omega)).ent (by rw [← hyv];exact af 8 [3,0,1,2,4,5,6,7] Z)) ?_;rintro _ _ ⟨rfl,rfl⟩;refine ⟨af 8 [3,7] rfl,?_⟩;rw [Ey];have hsl:(wm e y.hs).length≤y.hs.length:=apc _ _;refine ay Z Zl <| cl 1 Z Z Z Z <| ay Z Zl <| js 1 Z Z Z Z Z Z (fU h32) Z Z ?_;refine aas Z Z Z Z ⟨rfl,(by show (u8s e.id).length=32;rw [dr,h32]),trivial⟩ ?_;refine cz 22 (hdV (hdE e)) Z Z <| d9 Z Z Z Z (Xf (fun h hh=>hyh h (anx.1 hh).1) hho (ao4 _ hyr) (by omega)) ?_;rintro v _ rfl;refine ⟨af 8 [3,7] rfl,(aq <| jd Z (dc _) <| ix (fun w H=>(H.oat (k:=0) Z).form) ?_)⟩;rintro ⟨A',c6,rfl,_,_,_⟩;refine ay Z Zl <| ay Z Zl ?_;refine me 3 (k1.length*2+1) Z Z Z Z Z Z Z Z Z (J0 (q5 (hdE e) (wm e y.hs))) Z (by rw [apv]) (by rw [Bb,htl];simp only [anp,ao1];omega) (fun u hu=>by rw [anc.1 hu];rfl) (dc _) ?_;refine aq ?_
 skip
 have hil:=uY (hdE e) (wm e y.hs);refine jb Z .nil (G:=dkP gd vv (some ⟨g,o,none⟩) c' (l1++⟨r.nm,r.tv,k1++⟨y.nm,.slice A' (q5 (hdE e) (wm e y.hs)).length c6,q5 (hdE e) (wm e y.hs)⟩::k2,r.mv,r.ms⟩::l2) F) ((af 8 [1,2,3,0,4,5,6] Z).trans (Qu (by rw [htv,hts]))) ?_;refine Ez hdk h9 hts hrn hyn hat (fun h hh=> ?_) (by omega) (oY (ao4 _ hyr) fun x hx=>hfy x (anx.1 hx).1) (fun p l hp hl=>by rw [Qq h1,if_pos hp,hl]) (fun p l hp=>by rw [Qq h1,if_neg hp]);rcases bU.1 hh with rfl | hh
 ·exact hho
 ·exact hyh h (anx.1 hh).1
theorem U2 (hk:DK k rs) (h9:k≤800) (hew:EW e) (hr:e.repo.size≤1000) (ht:e.tag.size≤1000) (h1:e.kind=4) (he:∀ w,Sat b F w→ER w e):SC Tryz.prog eQ [pp gd,evV e] b (dkP gd vv A c rs F) (fun _ F'=>Ew k gd vv rs e F F'):=by
 have h32:=hew.l32;have el:=di h32;refine aw Tryz.func58 Z Z Z <| akw <| bx Z Z Z Z Z fun g3=>aan <| am4 Z Z <| bt 0 Z Z Z <| ae Z <| bt 0 Z Z Z <| bf Z Z Z ((Xh (F:=pt g3 ba (evC e)::F) hk (by omega) hr ht).ent (af 4 [1,2,3,0] Z)) ?_
 rintro _ _ ⟨g,o,c',l1,r,l2,gT,oT,cT,k1,y,k2,rfl,hrn,htv,hts,hyn,hdk,hat,rfl⟩;refine eo (Qt htv hts) ?_;have hrw:=hdk.r r (by simp);have hym:y∈r.ts:=by rw [hts];simp
 have hyn9:=hrw.gn y hym;have hyh:=hrw.gh y hym;have hdw:=hdk.w;rw [kf] at hdw;have hyr:nk y.hs:=(hdw.ok r.pl (by simp)).th y.pl (anb.2 ⟨y,hym,rfl⟩);have htl:(k1++y::k2).length=k1.length+k2.length+1:=by simp;omega
 refine b9 (fun w H=>cp ((H.oat (k:=3) Z).sl)) ?_;rintro ⟨A5,c5,hyv,_⟩;refine ae Z <| akv <| jc flo 7 (row dx 2 (.slice (some ⟨gT,oT,none⟩) (k1++y::k2).length cT) (k1++y::k2).length (dE (k1++y::k2))::pt g3 ba (evC e)::F) [] Z (by decide +kernel) (af 8 [2,7] Z) <| ay Z Zl <| ay Z Zl <| ay Z Zl <| ay Z Zl <| ij Z (fun w H=>br (v:=y.hv) Z Z Z ((J1 (q:=0) (j:=1) Z Z (by omega) w H).trans Z)) Z Z <| cz 15 (.slice A5 y.hs.length c5) Z hyv ?_;refine js 1 Z Z Z Z Z Z (dj (by rw [el];rfl)) Z Z ?_;refine d9 Z Z Z Z ((Ia (A:=A5) (c:=c5) (q:=fun _=>true) (post:= []) (fa:=cR) (F:=pt gd il [vv,.slice (some ⟨g,o,none⟩) (l1++r::l2).length c']::row bi 3 (.slice (some ⟨g,o,none⟩) (l1++r::l2).length c') (l1++r::l2).length (oq (l1++r::l2))::row dx 2 (.slice (some ⟨gT,oT,none⟩) (k1++y::k2).length cT) (k1++y::k2).length (dE (k1++y::k2))::rHs r.mv r.ms::all (tgF (k1++k2))::all (rpF (l1++l2))::pt g3 ba (evC e)::F) hyh (fun w H=>he w (H.ent (af 7 [] Z))) h32 (fun h hh B=>Ql (hyh h hh).id.1) (by omega)).ent (by rw [← hyv];exact af 8 [3,0,1,2,4,5,6,7] Z)) ?_;rintro _ _ ⟨rfl,rfl⟩;refine ⟨af 8 [3,7] rfl,?_⟩;rw [Ey];have hsl:(wm e y.hs).length≤y.hs.length:=apc _ _;refine aq <| jd Z (dc _) <| ay Z Zl <| ay Z Zl ?_;refine me 3 (k1.length*2+1) Z Z Z Z Z Z Z Z Z (J0 (wm e y.hs)) Z (by rw [apv]) (by rw [Bb,htl];simp only [anp,ao1];omega) (fun u hu=>by rw [anc.1 hu];rfl) (dc _) ?_;refine aq ?_
 skip
 refine jb Z .nil (G:=dkP gd vv (some ⟨g,o,none⟩) c' (l1++⟨r.nm,r.tv,k1++⟨y.nm,.slice A5 (wm e y.hs).length c5,wm e y.hs⟩::k2,r.mv,r.ms⟩::l2) F) ((af 8 [1,2,3,0,4,5,6] Z).trans (Qu (by rw [htv,hts]))) ?_;exact Ez hdk h9 hts hrn hyn hat (fun h hh=>hyh h (anx.1 hh).1) (by omega) (ao4 _ hyr) (fun p l hp hl=>by rw [Qr h1,if_pos hp,hl]) (fun p l hp=>by rw [Qr h1,if_neg hp])
end

theorem U3 (p:Tg→Bool) (l:List Tg):∃ B,(tgF l).Perm (B++tgF (l.filter p)):=by
 induction l with
 | nil => exact ⟨[], .refl _⟩
 | cons g l ih =>
  obtain ⟨B,hB⟩:=ih;rw [aor]
  split
  ·exact ⟨B,(hB.cons (rHs g.hv g.hs)).trans an2.symm⟩
  ·exact ⟨rHs g.hv g.hs::B,hB.cons _⟩
theorem U4 (p:Rp→Bool) (l:List Rp):∃ B,(rpF l).Perm (B++rpF (l.filter p)):=by
 induction l with
 | nil => exact ⟨[], .refl _⟩
 | cons g l ih =>
  obtain ⟨B,hB⟩:=ih;rw [aor]
  split
  ·exact ⟨B,(hB.cons (all (rpP g))).trans an2.symm⟩
  ·exact ⟨all (rpP g)::B,hB.cons _⟩
theorem E2 (p:Tg→Bool) {l:List Tg} {F:List SP}:Ent (all (tgF l)::F) (all (tgF (l.filter p))::F):=by
 obtain ⟨B,hB⟩:=U3 p l;exact (qd hB).trans (qr B)
theorem E3 (p:Rp→Bool) {l:List Rp} {F:List SP}:Ent (all (rpF l)::F) (all (rpF (l.filter p))::F):=by
 obtain ⟨B,hB⟩:=U4 p l;exact (qd hB).trans (qr B)
def tTs (l:List Tg):List Tg:=l.filter fun g=> !decide (g.hs.length=0)
def rq (r:Rp):ByteArray × List Tg × Value × List Hd:=(r.nm,r.ts,r.mv,r.ms)
def rqt (r:Rp):ByteArray × List Tg × Value × List Hd:=(r.nm,tTs r.ts,r.mv,r.ms)
def tRs (l:List Rp):List Rp:=l.filter fun r=> !decide (r.ts.length+r.ms.length=0)
theorem Zy (l:List Tg):(tTs l).map Tg.pl=gI (l.map Tg.pl):=by
 unfold tTs gI;rw [List.filter_map];rfl
theorem Zz {rs rs1:List Rp} (h:rs1.map rq=rs.map rqt):(tRs rs1).map Rp.pl=uR (rs.map Rp.pl):=by
 have h1:rs1.map Rp.pl=(rs.map Rp.pl).map fun r=>(⟨r.nm,gI r.ts,r.ms⟩:RP):=by
  have:=am7 (List.map fun q:ByteArray × List Tg × Value × List Hd=>(⟨q.1,q.2.1.map Tg.pl,q.2.2.2⟩:RP)) h;rw [apk,apk] at this;rw [apk];refine Eq.trans this <| aqj fun r _=> ?_;show (⟨r.nm,(tTs r.ts).map Tg.pl,r.ms⟩:RP)=_;rw [Zy];rfl
 unfold uR;rw [← h1,List.filter_map];unfold tRs;congr 1;refine ap6 fun r _=> ?_;show (!decide (r.ts.length+r.ms.length=0)) = !decide ((r.ts.map Tg.pl).length+r.ms.length=0);rw [anf]
theorem Z0 {rs rs1:List Rp} (h:rs1.map rq=rs.map rqt) {r:Rp} (hr:r∈rs1):∃ x∈rs,rq r=rqt x:=by
 have:rq r∈rs.map rqt:=by rw [← h];exact anb.2 ⟨r,hr,rfl⟩
 obtain ⟨x,hx,h1⟩:=anb.1 this;exact ⟨x,hx,h1.symm⟩
theorem akb {r x:Rp} (h:rq r=rqt x) (hx:RW x):RW r:=by
 have e1:r.nm=x.nm:=am7 (·.1) h;have e2:r.ts=tTs x.ts:=am7 (·.2.1) h;have e3:r.ms=x.ms:=am7 (·.2.2.2) h;have hl:(tTs x.ts).length≤x.ts.length:=apc _ _;have hm:∀ g∈r.ts,g∈x.ts:=fun g hg=>by rw [e2] at hg;exact (anx.1 hg).1
 exact ⟨by rw [e2];have:=hx.tn;omega,by rw [e3];exact hx.mn,fun g hg=>hx.gn g (hm g hg),fun h hh=>hx.mh h (by rw [← e3];exact hh),fun g hg=>hx.gh g (hm g hg),by rw [e1];exact hx.ns,fun g hg=>hx.gs g (hm g hg)⟩
section
variable {b:World} {F:List SP} {gd g o:Nat} {vv:Value} {c:Nat} {rs:List Rp} {k:Nat}
theorem Z1 (hk:DK k rs) (h9:k≤1000):SC Tryz.prog iK [pp gd] b (dkP gd vv (some ⟨g,o,none⟩) c rs F) (fun _ F'=>∃ c' rs',rs'.map Rp.pl=uR (rs.map Rp.pl)∧(∀ r∈rs',RW r)∧rs'.length≤k∧F'=dkP gd vv (some ⟨g,o,none⟩) c' rs' F):=by
 have hkn:=hk.n;refine aw Tryz.func59 Z Z Z <| ad <| akw <| am5 Z Z Z <| ae Z <| bt 0 Z Z Z <| am4 Z Z <| akv <| am <| dt (S:=Nat × List Rp) (fun s=> [(0,pp gd),(9,ii rs.length),(10,ii s.1)]) (fun s=>pt gd il [vv,.slice (some ⟨g,o,none⟩) rs.length c]::row bi 3 (.slice (some ⟨g,o,none⟩) rs.length c) rs.length (oq (s.2++rs.drop s.1))::all (rpF (s.2++rs.drop s.1))::F) (fun s=>s.1≤rs.length∧s.2.map rq=(rs.take s.1).map rqt) (fun s=>rs.length - s.1) (0,[]) ax ⟨anq _,rfl⟩ ?_;rintro ⟨i,r1⟩ ⟨hi,hq⟩;dsimp only at hi hq ⊢;have hl1:r1.length=i:=by have:=am7 List.length hq;rw [anf,anf,anm] at this;omega
 refine akw <| ae Z <| akv <| ad ?_;refine de Z (fun h1=> ?_) (fun h1=> ?_)
 ·have h1':i<rs.length:=by omega
  have hrm:=ana h1';have hdr:rs.drop i=rs[i]::rs.drop (i+1):=an8 h1';have hsn:rs.take (i+1)=rs.take i ++ [rs[i]]:=ang h1';have hrw:=hk.r _ hrm;have hll:(r1++rs.drop i).length=rs.length:=by rw [am9,aoi];omega
  rw [hdr] at hll ⊢;generalize rs[i]=r at *;generalize hr2:rs.drop (i+1)=r2 at *;have hll':r1.length+(r2.length+1)=rs.length:=by rw [← hll,am9,anp]
  refine ak <| ab <| ad <| am <| akw <| am4 Z Z <| aan <| am5 Z Z Z <| ae Z <| bt 0 Z Z Z <| ae Z <| az Z <| ae Z <| akv <| aa <| am5 Z Z Z <| ae Z <| eo ((af 3 [2,0,1] Z).trans ((qd dJ).trans (sk (G:=rpP r)))) <| b9 (fun w H=>cp ((H.oat (k:=0) Z).sl)) ?_;rintro ⟨A3,c3,htv,_⟩;refine b9 (p:=∀ y∈r.ts,∃ A c,y.hv = .slice A y.hs.length c) (fun w H y hy=>by
   obtain ⟨A9,c9,h9,_⟩:=cp (H6 (k:=2) Z hy w H);exact ⟨A9,c9,h9⟩) fun htg=> ?_
  have hadr:o+nK (i:Int).toNat 3+1=o+r1.length*3+1:=by rw [bq,am6,hl1]
  refine fc Z (fun w H=>br (v:=r.tv) Z Z Z (by rw [hadr];exact ((nB (q:=5) (j:=1) Z hll.symm (by omega) w H).trans Z))) Z ?_;refine bm 24 (.slice A3 r.ts.length c3) Z htv ?_;refine bf Z Z Z ((ajs (F:=rHs r.mv r.ms::all (tgF r.ts)::all (rpF (r1++r2))::pt gd il [vv,.slice (some ⟨g,o,none⟩) rs.length c]::row bi 3 (.slice (some ⟨g,o,none⟩) rs.length c) rs.length (oq (r1++r::r2))::F) (D:=r.ts) (A:=A3) (c:=c3) (p:=fun y=>decide (y.hs.length=0)) (f:=uh) (pre:= []) (post:= []) (fun y hy B=>by
   obtain ⟨A9,c9,h9⟩:=htg y hy;exact Uv h9) (fun _ _=>rfl) (fun y hy u hu=>by
   obtain ⟨A9,c9,h9⟩:=htg y hy;simp only [tgC,anj,apb,or_false] at hu;rcases hu with rfl | rfl
   ·rfl
   ·rw [h9];rfl) (by have:=hrw.tn;omega)).ent (by rw [← htv];exact af 6 [0,1,2,3,4,5] Z)) ?_
  rintro _ _ ⟨rfl,rfl⟩;have hfe:(r.ts.filter fun y=> !decide (y.hs.length=0))=tTs r.ts:=rfl;rw [hfe];refine am4 Z Z ?_;refine ym 5 (r1.length*3+1) Z Z Z Z Z Z Z Z (Bc (tTs r.ts)) Z (by rw [hadr,apv]) (by rw [z4,hll];simp only [anp,ao1];omega) (fun u hu=>by rw [anc.1 hu];rfl) ?_;refine ac <| bh <| ab <| aa <| az Z <| ae Z <| ac ?_;rw [show (i:Int)+1=((i+1:Nat):Int) by omega];refine cw (i+1,r1 ++ [⟨r.nm,.slice A3 (tTs r.ts).length c3,tTs r.ts,r.mv,r.ms⟩]) ?_ ⟨h1',by dsimp only;rw [hsn,anu,anu,hq];rfl⟩;dsimp only;rw [hr2,anh];exact (af 4 [2,0,1,3] Z).trans ((E2 _).trans ((af 3 [1,2,0] Z).trans ((eg (G:=rpP ⟨r.nm,.slice A3 (tTs r.ts).length c3,tTs r.ts,r.mv,r.ms⟩)).trans ((ny dJ).trans (af 3 [1,2,0] Z)))))
 ·obtain rfl:i=rs.length:=by omega
  rw [an7] at hq;rw [List.drop_length,anv,← hl1];have hrw:∀ r∈r1,RW r:=fun r hr=>by
   obtain ⟨x,hx,h2⟩:=Z0 hq hr;exact akb h2 (hk.r x hx)
  refine bz <| au <| av <| ap <| ab <| aa ?_
  (iterate 5 refine ae Z ?_)
  refine bt 0 Z Z Z ?_;refine b9 (p:=∀ r∈r1,(∃ A c,r.tv = .slice A r.ts.length c)∧∃ A c,r.mv = .slice A r.ms.length c) (fun w H r hr=>by
   have h2:=H7 (k:=2) Z hr w H;obtain ⟨A9,c9,h9,_⟩:=cp h2.t;obtain ⟨A8,c8,h8,_⟩:=cp h2.m;exact ⟨⟨A9,c9,h9⟩,A8,c8,h8⟩) fun hfm=> ?_
  refine bf Z Z Z ((aju (F:=pt gd il [vv,.slice (some ⟨g,o,none⟩) r1.length c]::all (rpF r1)::F) (D:=r1) (A:=some ⟨g,o,none⟩) (c:=c) (p:=fun r=>decide (r.ts.length+r.ms.length=0)) (f:=uj) (pre:= []) (post:= []) (fun r hr B=>by
   obtain ⟨⟨A9,c9,h9⟩,A8,c8,h8⟩:=hfm r hr;exact Uw h9 h8 (by have:=(hrw r hr).tn;omega) (by have:=(hrw r hr).mn;omega)) (fun _ _=>rfl) (fun r hr u hu=>by
   obtain ⟨⟨A9,c9,h9⟩,A8,c8,h8⟩:=hfm r hr;simp only [rpC,anj,apb,or_false] at hu;rcases hu with rfl | rfl | rfl
   ·rfl
   ·rw [h9];rfl
   ·rw [h8];rfl) (by omega)).ent (af 3 [1,0,2] Z)) ?_
  rintro _ _ ⟨rfl,rfl⟩;have hfe:(r1.filter fun r=> !decide (r.ts.length+r.ms.length=0))=tRs r1:=rfl;rw [hfe];refine am5 Z Z Z <| eu 1 Z Z Z Z <| ac <| jb Z .nil ((af 3 [1,0,2] Z).trans (show Ent (_::_::all (rpF r1)::F) (_::_::all (rpF (tRs r1))::F) from j4 (j4 (E3 _)))) <| ⟨c,tRs r1,Zz hq,fun r hr=>hrw r (anx.1 hr).1,?_,rfl⟩;have:(tRs r1).length≤r1.length:=apc _ _;omega
end

theorem Qv {l:List Tg} {g:Tg}:(tgF (l ++ [g])).Perm ([rHs g.hv g.hs]++tgF l):=by
 rw [dF];exact ao9
theorem Qw {l:List Rp} {r:Rp}:(rpF (l ++ [r])).Perm ([all (rpP r)]++rpF l):=by
 rw [dG];exact ao9
section
variable {b:World} {F:List SP} {t:Tb}
theorem Z2 (hW:TW t) (hT:∀ w,Sat b F w→TR w t):SC Tryz.prog Cr [tbV t] b F (fun u F'=>∃ vv A c rs',u = .agg ⟨[vv,.slice A rs'.length c]⟩∧rs'.map Rp.pl=t.rs.map Rp.pl∧(∀ r∈rs',RW r)∧F'=rZ vv t.V::row bi 3 (.slice A rs'.length c) rs'.length (oq rs')::all (rpF rs')::F):=by
 have hrn:=hW.rn;have hvn:=hW.vn;refine aw Tryz.func54 Z Z Z <| bu (fun w H=>cp (hT w H).r) ?_;rintro ⟨A,c,hrv,_,_,_,h4,_⟩;refine akw <| bx Z Z Z Z Z fun g1=>db Z Z Z Z Z fun g2=>aan <| ae Z <| bt 1 Z Z Z <| bf Z Z Z (cX (up (fun w H=>(hT w H).v) (af 2 [] Z)) (by omega)) ?_
 rintro vv _ rfl;refine b9 (fun w H=>(H.oat (k:=0) Z).form) ?_;rintro ⟨Av,cv,rfl,_,_,_⟩;refine ae Z <| db Z Z Z Z Z fun g3=>eu 0 Z Z Z Z <| akv <| ad <| akw <| ae Z <| bt 3 Z Z Z <| bm 14 (.slice A t.rs.length c) Z hrv <| am4 Z Z <| akv <| am ?_
 refine dt (S:=Nat × List Rp × Option Addr × Nat) (fun s=> [(1,pp g1),(2,pp g2),(3,pp g3),(14,.slice A t.rs.length c),(15,ii t.rs.length),(16,ii s.1)])
  (fun s=>pt g3 bj [.slice Av t.V.length cv,.slice s.2.2.1 s.2.1.length s.2.2.2]::row bi 3 (.slice s.2.2.1 s.2.1.length s.2.2.2) s.2.1.length (oq s.2.1)::all (rpF s.2.1)::rZ (.slice Av t.V.length cv) t.V::pt g2 bj [.slice none 0 0,.slice none 0 0]::pt g1 bj (tbC t)::F)
  (fun s=>s.1≤t.rs.length∧s.2.1.map Rp.pl=(t.rs.take s.1).map Rp.pl∧∀ r∈s.2.1,RW r) (fun s=>t.rs.length - s.1) (0,[],none,0) ?_ ⟨anq _,rfl,fun r hr=>(by cases hr)⟩ ?_
 ·exact ((eg (G:= [])).trans (df bi 3 Z)).trans (af 6 [2,0,1,3,4,5] Z)
 rintro ⟨i,r1,A1,c1⟩ ⟨hi,hpl,hrw1⟩;dsimp only at hi hpl hrw1 ⊢;have hl1:r1.length=i:=by have:=am7 List.length hpl;rw [anf,anf,anm] at this;omega
 refine akw <| ae Z <| akv <| ad ?_;refine de Z (fun h1=> ?_) (fun h1=> ?_);rotate_left
 ·obtain rfl:i=t.rs.length:=by omega
  rw [an7] at hpl;refine bz <| au <| av <| ap <| ab <| akw <| bt 0 Z Z Z <| eu 4 Z Z Z Z <| akv <| ai <| fw Z (.agg 4 Z Z Z Z Z .nil) (af 6 [3,1,2] Z) ?_;exact ⟨_,A1,c1,r1,rfl,hpl,hrw1,rfl⟩
 have h1':i<t.rs.length:=by omega
 obtain ⟨gg,oo,rfl⟩:=h4 (by omega);have hrm:=ana h1';have hcr:∀ w,Sat b F w→∀ j,j<3→w.cell? ⟨gg,oo+i*3+j,none⟩=(rpC t.rs[i])[j]?:=fun w H j hj=>fb (f:=rpC) (by have:=(hT w H).r;rwa [hrv] at this) (fun _ _=>rfl) h1' hj
 have hrr:∀ w,Sat b F w→RR w t.rs[i]:=fun w H=>(hT w H).rr _ hrm
 have hrw:=hW.rw _ hrm;have hsn:t.rs.take (i+1)=t.rs.take i ++ [t.rs[i]]:=ang h1';generalize t.rs[i]=r at *;have htn:=hrw.tn;have hmn:=hrw.mn;refine ak <| ab <| ad <| am <| akw <| az Z ?_;refine fc Z (fun w H=>cg (cs:=rpC r) Z Z Z Z (fun j hj=>by rw [bq,am6];exact hcr w (H.ent (af 6 [] Z)) j hj)) Z ?_;refine b9 (fun w H=>(hrr w (H.ent (af 6 [] Z))).one) fun hone=> ?_;refine b9 (fun w H=>cp (hrr w (H.ent (af 6 [] Z))).t) ?_;rintro ⟨A3,c3,htv,_,_,_,k4,_⟩;refine db Z Z Z Z Z fun g5=> ?_;refine fh 0 Z Z Z Z Z Z Z Z hone Z <| akv <| ad ?_;refine w9 flo 8 (pt g5 bi (rpC r)::F) (by kernel_rfl) Z (af 7 [0] Z) ?_;refine q8 (T:=Nat × Option Addr × Nat) 6 [0,1,5,7] (fun q=> [(1,pp g1),(2,pp g2),(3,pp g3),(14,.slice (some ⟨gg,oo,none⟩) t.rs.length c),(15,ii t.rs.length),(16,ii i),(5,pp g5),(6,pp q.1),(24,.slice q.2.1 r.ms.length q.2.2)])
  (fun q=>pt q.1 bi [.string ⟨⟨[]⟩⟩,.slice none 0 0,.slice none 0 0]::rHs (.slice q.2.1 r.ms.length q.2.2) r.ms::pt g5 bi (rpC r)::pt g3 bj [.slice Av t.V.length cv,.slice A1 r1.length c1]::row bi 3 (.slice A1 r1.length c1) r1.length (oq r1)::all (rpF r1)::rZ (.slice Av t.V.length cv) t.V::pt g2 bj [.slice none 0 0,.slice none 0 0]::pt g1 bj (tbC t)::F) (fun _=>True) ?_ (fun J=> ?_)
 ·rintro ⟨g6,A6,c6⟩ _;dsimp only;refine pg (7,[0,1,5]) [] (by kernel_rfl) ⟨jm 0 2 (L2:= [5]) Z Z ?_,trivial⟩;refine ay Z Zl <| cl 0 Z Z Z Z <| aq (s0 (af 9 [2] Z) (jm 5 1 (L2:= []) Z Z (ay Z Zl <| aq <| s0 (af 9 [2] Z) <| jf _ Z ax ?_)));refine aE (vs:= [.string r.nm,.slice none 0 0,.slice A6 r.ms.length c6]) 0 Z Z Z Z Z Z Z Z Z (by simp [Value.oneCell']) Z (af 9 [2] Z) ?_;refine aq (io (af 9 [2] Z) (yq 0 0 (by kernel_rfl) (by kernel_rfl) Z (aq ?_)));refine ab <| ad <| akw <| ae Z <| bt 2 Z Z Z <| bm 27 (.slice A3 r.ts.length c3) Z htv <| am4 Z Z <| akv <| am ?_;refine dt (S:=Nat × List Tg × Option Addr × Nat) (fun s=> [(1,pp g1),(2,pp g2),(3,pp g3),(14,.slice (some ⟨gg,oo,none⟩) t.rs.length c),(15,ii t.rs.length),(16,ii i),(6,pp g6),(27,.slice A3 r.ts.length c3),(28,ii r.ts.length),(29,ii s.1)])
   (fun s=>pt g6 bi [.string r.nm,.slice s.2.2.1 s.2.1.length s.2.2.2,.slice A6 r.ms.length c6]::row dx 2 (.slice s.2.2.1 s.2.1.length s.2.2.2) s.2.1.length (dE s.2.1)::all (tgF s.2.1)::rHs (.slice A6 r.ms.length c6) r.ms::pt g5 bi (rpC r)::pt g3 bj [.slice Av t.V.length cv,.slice A1 r1.length c1]::row bi 3 (.slice A1 r1.length c1) r1.length (oq r1)::all (rpF r1)::rZ (.slice Av t.V.length cv) t.V::pt g2 bj [.slice none 0 0,.slice none 0 0]::pt g1 bj (tbC t)::F)
   (fun s=>s.1≤r.ts.length∧s.2.1.map Tg.pl=(r.ts.take s.1).map Tg.pl) (fun s=>r.ts.length - s.1) (0,[],none,0) ?_ ⟨anq _,rfl⟩ ?_
  ·exact ((eg (G:= [])).trans (df dx 2 Z)).trans (af 3 [2,0,1] Z)
  rintro ⟨k,k1,A2,c2⟩ ⟨hk,hkp⟩;dsimp only at hk hkp ⊢;have hk1:k1.length=k:=by have:=am7 List.length hkp;rw [anf,anf,anm] at this;omega
  refine akw <| ae Z <| akv <| ad ?_;refine de Z (fun h2=> ?_) (fun h2=> ?_)
  ·have h2':k<r.ts.length:=by omega
   obtain ⟨gt,ot,rfl⟩:=k4 (by omega);have hgm:=ana h2';have hct:∀ w,Sat b F w→∀ j,j<2→w.cell? ⟨gt,ot+k*2+j,none⟩=(tgC r.ts[k])[j]?:=fun w H j hj=>fb (f:=tgC) (by have:=(hrr w H).t;rwa [htv] at this) (fun _ _=>rfl) h2' hj
   have hgr:∀ w,Sat b F w→SL w 34 r.ts[k].hv r.ts[k].hs.length (wx r.ts[k].hs):=fun w H=>(hrr w H).g _ hgm
   have hsn2:r.ts.take (k+1)=r.ts.take k ++ [r.ts[k]]:=ang h2';have hgn:=hrw.gn _ hgm;generalize r.ts[k]=y at *;refine ak <| ab <| ad <| am <| akw <| az Z ?_;refine fc Z (fun w H=>cg (cs:=tgC y) Z Z Z Z (fun j hj=>by rw [bq,am6];exact hct w (H.ent (af 11 [] Z)) j hj)) Z ?_;refine b9 (fun w H=>Az (hgr w (H.ent (af 11 [] Z)))) fun hone2=> ?_;refine db Z Z Z Z Z fun g8=> ?_;refine fh 0 Z Z Z Z Z Z Z Z hone2 Z <| akv <| jc flo 10 (pt g8 dx (tgC y)::pt g6 bi [.string r.nm,.slice A2 k1.length c2,.slice A6 r.ms.length c6]::F) [] Z (by decide +kernel) (af 12 [0,1] Z) <| ay Z Zl <| cl 1 Z Z Z Z <| ay Z Zl <| cl 0 Z Z Z Z <| ay Z Zl <| cl 0 Z Z Z Z <| d9 Z Z Z Z (mZ (fun w H=>hgr w (H.ent (af 12 [] Z))) (fun d _=>rg d) (by omega)) ?_;rintro v7 _ rfl;refine ⟨af 13 [1,2] rfl,(ix (fun w H=>(H.oat (k:=0) Z).form) ?_)⟩;rintro ⟨A7,c7,rfl,_,_,_⟩;refine ay Z Zl <| gS (cs:=tgC ⟨y.nm,.slice A7 y.hs.length c7,y.hs⟩) Z Z Z Z Z Z Z Z Z (by decide) (af 13 [1,2] Z) fun gl=> ?_;refine nU 4 Z Z Z Z Z Z Z Z Z Z (m:=1) (news:=tgC ⟨y.nm,.slice A7 y.hs.length c7,y.hs⟩) (fun w' H=>(H.blk (k:=0) Z).sl Z (by decide)) (by simp [Value.oneCell']) (by omega) (fun _=>rfl) (fun _=>af 14 [2,3] Z) fun v8=> ?_;refine aq <| jd Z (dc _) <| ix (fun w H=>(H.oat (k:=4) Z).form) ?_;rintro ⟨A8,c8,rfl,_,_,_⟩;refine ay Z Zl <| aM 3 Z Z Z Z Z Z Z Z Z Z Z (dc _) <| aq <| bh <| ab <| aa <| az Z <| ae Z <| ac ?_;have e1:dE k1++tgC ⟨y.nm,.slice A7 y.hs.length c7,y.hs⟩=dE (k1 ++ [⟨y.nm,.slice A7 y.hs.length c7,y.hs⟩]):=by
    show _=flC tgC _;rw [fu];rfl
   have e2:k1.length+1=(k1 ++ [(⟨y.nm,.slice A7 y.hs.length c7,y.hs⟩:Tg)]).length:=by simp
   rw [e1,e2];rw [show (k:Int)+1=((k+1:Nat):Int) by omega];refine cw (k+1,k1 ++ [⟨y.nm,.slice A7 y.hs.length c7,y.hs⟩],A8,c8) ?_ ⟨h2',by dsimp only;rw [hsn2,anu,anu,hkp];rfl⟩;exact (af 14 [1,5,3,4,6,7,8,9,10,11,12,13] Z).trans ((ny (Qv (l:=k1) (g:=⟨y.nm,.slice A7 y.hs.length c7,y.hs⟩))).trans (af 3 [1,2,0] Z))
  ·obtain rfl:k=r.ts.length:=by omega
   rw [an7] at hkp;have hq:∀ y∈k1,∃ z∈r.ts,y.pl=z.pl:=fun y hy=>by
    have:y.pl∈r.ts.map Tg.pl:=by rw [← hkp];exact anb.2 ⟨y,hy,rfl⟩
    obtain ⟨z,hz,h3⟩:=anb.1 this;exact ⟨z,hz,h3.symm⟩
   have hq1:∀ {y z:Tg},y.pl=z.pl→y.nm=z.nm∧y.hs=z.hs:=fun h=>⟨am7 TG.nm h,am7 TG.hs h⟩
   have hw':RW ⟨r.nm,.slice A2 k1.length c2,k1,.slice A6 r.ms.length c6,r.ms⟩:=⟨by dsimp only;omega,hrw.mn,fun y hy=>by
     obtain ⟨z,hz,h3⟩:=hq y hy;rw [(hq1 h3).2];exact hrw.gn z hz,hrw.mh,fun y hy=>by
     obtain ⟨z,hz,h3⟩:=hq y hy;rw [(hq1 h3).2];exact hrw.gh z hz,hrw.ns,fun y hy=>by
     obtain ⟨z,hz,h3⟩:=hq y hy;rw [(hq1 h3).1];exact hrw.gs z hz⟩
   refine bz <| au <| av <| ap <| ab <| aa <| ae Z <| bt 5 Z Z Z <| bt 0 Z Z Z <| lr (cs:=rpC ⟨r.nm,.slice A2 k1.length c2,k1,.slice A6 r.ms.length c6,r.ms⟩) Z Z Z Z Z Z Z Z (by decide) fun gl=> ?_;refine ef 7 Z Z Z Z Z Z Z Z Z (m:=1) (news:=rpC ⟨r.nm,.slice A2 k1.length c2,k1,.slice A6 r.ms.length c6,r.ms⟩) (fun w' H=>(H.blk (k:=0) Z).sl Z (by decide)) (by simp [Value.oneCell']) (by omega) (fun _=>rfl) fun v8=> ?_;refine b9 (fun w H=>(H.oat (k:=7) Z).form) ?_;rintro ⟨A8,c8,rfl,_,_,_⟩;refine ae Z <| eu 6 Z Z Z Z <| ac <| bh <| ab <| aa <| az Z <| ae Z <| ac ?_;have e1:oq r1++rpC ⟨r.nm,.slice A2 k1.length c2,k1,.slice A6 r.ms.length c6,r.ms⟩=oq (r1 ++ [⟨r.nm,.slice A2 k1.length c2,k1,.slice A6 r.ms.length c6,r.ms⟩]):=by
    show _=flC rpC _;rw [fu];rfl
   have e2:r1.length+1=(r1 ++ [(⟨r.nm,.slice A2 k1.length c2,k1,.slice A6 r.ms.length c6,r.ms⟩:Rp)]).length:=by simp
   rw [e1,e2];rw [show (i:Int)+1=((i+1:Nat):Int) by omega];refine cw (i+1,r1 ++ [⟨r.nm,.slice A2 k1.length c2,k1,.slice A6 r.ms.length c6,r.ms⟩],A8,c8) ?_ ⟨h1',by
    dsimp only;rw [hsn,anu,anu,hpl];show _ ++ [(⟨r.nm,k1.map Tg.pl,r.ms⟩:RP)]=_;rw [hkp];rfl,fun x hx=> ?_⟩
   ·exact (af 12 [2,4,3,8,6,7,9,10,11] Z).trans ((eg (G:=rpP ⟨r.nm,.slice A2 k1.length c2,k1,.slice A6 r.ms.length c6,r.ms⟩)).trans ((ny (Qw (l:=r1) (r:=⟨r.nm,.slice A2 k1.length c2,k1,.slice A6 r.ms.length c6,r.ms⟩))).trans (af 3 [1,2,0] Z)))
   ·rcases anr.1 hx with hx | hx
    ·exact hrw1 x hx
    ·rw [anc.1 hx];exact hw'
 ·refine pg (4,[2,3]) [(6,[])] (by kernel_rfl) ⟨xa 2 2 Z Z Z ?_,jf _ Z ax ?_,trivial⟩
  ·refine ay Z Zl <| cl 0 Z Z Z Z <| d9 Z Z Z Z (mZ (fun w H=>(hrr w (H.ent (af 7 [] Z))).m) (fun d _=>rg d) (by omega)) ?_;rintro v7 _ rfl;refine ⟨af 8 [1] rfl,(ix (fun w H=>(H.oat (k:=0) Z).form) ?_)⟩;rintro ⟨A7,c7,rfl,_,_,_⟩;refine aq (io (af 8 [1] Z) (nu 6 0 (by kernel_rfl) Z ?_));refine jt Z Z Z Z Z Z (af 8 [1] Z) fun g6=>aq <| io (af 9 [2] Z) ?_
   exact J (g6,A7,c7) _ _ _ trivial (by kernel_rfl) ⟨rfl,rfl,rfl,rfl,rfl,rfl,rfl,rfl,rfl,trivial⟩ ax
  ·refine jt Z Z Z Z Z Z (af 7 [0] Z) fun g6=> ?_;refine aq (io (af 8 [1] Z) (nu 2 2 (by kernel_rfl) Z ?_));refine ay Z Zl <| cl 0 Z Z Z Z <| d9 Z Z Z Z (mZ (fun w H=>(hrr w (H.ent (af 8 [] Z))).m) (fun d _=>rg d) (by omega)) ?_;rintro v7 _ rfl;refine ⟨af 9 [2] rfl,(ix (fun w H=>(H.oat (k:=0) Z).form) ?_)⟩;rintro ⟨A7,c7,rfl,_,_,_⟩;refine aq <| io (af 9 [2] Z) ?_;exact J (g6,A7,c7) _ _ _ trivial (by kernel_rfl) ⟨rfl,rfl,rfl,rfl,rfl,rfl,rfl,rfl,rfl,trivial⟩ (af 9 [1,0,2,3,4,5,6,7,8] Z)
end

structure Nxt (V:List Int) (e:Ev):Prop where
 r1:1≤e.r
 r2:e.r≤V.length
 n1:1≤e.n
 n2:e.n≤1048576
 new:fq V e.r e.n=false
 dl:e.deps.length=V.length
 dn:tf e.deps
 nx:atL V e.r=e.n - 1
 le:lf e.deps V=true
 own:e.deps.getD (e.r - 1).toNat 0=e.n - 1
 k:1≤e.kind∧e.kind≤4
 repo:mo (fe e.repo)=(0,0)
 tag:e.kind=3∨e.kind=4→po (fe e.tag)=(0,0)
theorem Nxt.nextL {V:List Int} {e:Ev} (h:Nxt V e):YtbpdffopjkhelaaGreat.C5 V e.r=(e.r,e.n):=by
 have h1:=h.r1;have h2:=h.nx;have h3:=h.n2;unfold YtbpdffopjkhelaaGreat.C5;rw [if_neg (by unfold capI;omega),h2];exact aqq Z (by dsimp only;omega)
section
variable {b:World} {F:List SP} {t:Tb} {e:Ev}
theorem akc (hN:Nxt t.V e) (hn:t.V.length≤16) (hew:EW e) (hv:∀ w,Sat b F w→VL (Value.int .i64) w t.vv t.V) (he:∀ w,Sat b F w→ER w e):SC Tryz.prog Cq [tbV t,evV e] b F (fun u F'=>u=ii 0∧F'=F):=by
 have hnl:=hN.nextL;obtain ⟨r1,r2,n1,n2,hnew,dl,dn,nx,le,hown,⟨k1,k2⟩,hrepo,htag⟩:=hN;have h32:=hew.l32;refine aw Tryz.func53 Z Z Z <| bu (fun w H=>(hv w H).form) ?_;rintro ⟨A1,c1,hvv,_⟩;refine bu (fun w H=>(he w H).dv.form) ?_;rintro ⟨A2,c2,hdv,_,_,_,q4⟩;refine akw <| bx Z Z Z Z Z fun g2=>bx Z Z Z Z Z fun g3=>ae Z <| aan <| ae Z <| bt 0 Z Z Z <| db Z Z Z Z Z fun g5=>eu 0 Z Z Z Z <| akv ?_
 have hvv1:∀ w,Sat b (pt g5 t_api_Dot [ii e.r,ii e.n]::pt g3 ba (evC e)::pt g2 bj (tbC t)::F) w→VL (Value.int .i64) w t.vv t.V:=up hv (af 3 [] Z);have hee:∀ w,Sat b (pt g5 t_api_Dot [ii e.r,ii e.n]::pt g3 ba (evC e)::pt g2 bj (tbC t)::F) w→ER w e:=up he (af 3 [] Z);refine rN (S:=Unit) (fun _=> [(2,pp g2),(3,pp g3),(5,pp g5),(6,.bool (decide (e.kind=3∨e.kind=4)))]) (fun _=>pt g5 t_api_Dot [ii e.r,ii e.n]::pt g3 ba (evC e)::pt g2 bj (tbC t)::F) (fun _=>True) ?_ (fun _ _=> ?_)
 ·refine aa <| ae Z <| bt 1 Z Z Z <| am4 Z Z ?_;by_cases h3:e.kind=3
  ·refine se 12 Z h3 ?_
   (iterate 5 refine ae Z ?_)
   refine ac <| rl ax ?_;exact Fv () ⟨rfl,rfl,rfl,(by rw [ani (Or.inl h3)];rfl),trivial⟩ ax trivial
  ·refine sq 12 Z h3 <| ae Z <| bt 1 Z Z Z <| am5 Z Z Z <| ac ?_;exact Fv () ⟨rfl,rfl,rfl,(by rw [show decide (e.kind=3∨e.kind=4)=decide (e.kind=4) from aqd.2 (by omega)];rfl),trivial⟩ ax trivial
 refine ad <| am <| akw <| ae Z <| bt 0 Z Z Z <| am4 Z Z <| px 21 Z <| ae Z <| bt 0 Z Z Z <| ae Z <| bt 2 Z Z Z <| bm 25 (.slice A1 t.V.length c1) Z hvv <| am5 Z Z Z <| ae Z <| px 29 Z <| ae Z <| bt 0 Z Z Z <| am5 Z Z Z <| px 34 Z <| ae Z <| bt 0 Z Z Z <| am5 Z Z Z <| akv <| oe 17 Z <| aj Z <| akw <| ae Z <| bt 2 Z Z Z <| bt 0 Z Z Z <| bg Z Z Z (uE hvv1) ?_;rw [hnew];refine ae Z <| akv <| aj Z <| akw <| ae Z <| bt 1 Z Z Z <| bm 46 (.slice A2 e.deps.length c2) Z hdv <| am4 Z Z <| bt 2 Z Z Z <| bm 49 (.slice A1 t.V.length c1) Z hvv <| am5 Z Z Z ?_;refine bm 52 (.bool false) Z (by
  show Value.bool (!decide _)=_;rw [ani (by omega)];rfl) ?_
 refine ae Z <| bt 1 Z Z Z <| bf Z Z Z (Xe (fun w H=>(hee w H).dv) (by omega) dn (by omega)) ?_;rintro _ _ ⟨⟨z,z1,z2,rfl⟩,rfl⟩;refine am5 Z Z Z <| akv <| oe 44 Z <| aj Z <| ad <| cn flo _ (by decide +kernel) ax <| ay Z Zl <| cl 2 Z Z Z Z <| ay Z Zl <| cl 0 Z Z Z Z <| dh Z Z Z Z (SC.ofExt fun w H=>oJ (hvv1 w H)) ax ?_;rw [hnl];refine cl 0 Z Z Z Z <| dM Z (sj Z Z (zS _ _ _ _)) Z Z <| ay Z Zl <| cz 66 (.bool false) Z (am7 (fun q=>Value.bool (!q)) (ani ⟨rfl,rfl⟩)) <| ay Z Zl <| cl 1 Z Z Z Z <| ay Z Zl <| cl 2 Z Z Z Z <| dh Z Z Z Z (SC.ofExt fun w H=>tB (hee w H).dv (hvv1 w H)) ax ?_;rw [le];refine ay Z Zl <| ay Z Zl <| ay Z Zl <| ay Z Zl <| cl 1 Z Z Z Z <| ay Z Zl <| cl 0 Z Z Z Z <| cq Z Z ?_;obtain ⟨gg,oo,rfl⟩:=q4 (by omega);refine cz 76 (.slice (some ⟨gg,oo,none⟩) e.deps.length c2) Z hdv ?_;have hix:(e.r - 1).toNat<e.deps.length:=by omega
 have hgd:e.deps[(e.r - 1).toNat]=e.n - 1:=by rw [← jz hix];exact hown
 refine cq Z Z ?_;have hcell:∀ w,Sat b (pt g5 t_api_Dot [ii e.r,ii e.n]::pt g3 ba (evC e)::pt g2 bj (tbC t)::F) w→w.cell? ⟨gg,oo+(e.r - 1).toNat,none⟩=some (ii (e.n - 1)):=fun w H=>by
  have h1:=(hee w H).dv;rw [hdv] at h1;rw [← hgd];exact VL.at h1 (e.r - 1).toNat hix
 refine ij Z (fun w H=>br (v:=ii (e.n - 1)) Z Z Z (by rw [bq,aop];exact hcell w H)) Z Z ?_;refine ay Z Zl <| cl 0 Z Z Z Z <| cq Z Z <| ay Z Zl <| ay Z Zl <| ay Z Zl ?_;refine cz 58 (.bool false) Z (by
  show Value.bool (!decide _)=_;rw [ani rfl];rfl) ?_
 refine aq <| ab <| aj Z <| akw <| ae Z <| bt 1 Z Z Z <| am4 Z Z <| px 91 Z <| ae Z <| bt 1 Z Z Z <| am5 Z Z Z <| akv <| oe 87 Z <| aj Z <| akw <| ae Z <| bt 1 Z Z Z <| bg Z Z Z (Af) ?_;rw [hrepo];refine ae Z <| nq Z (sj Z Z (mq 0 0 0 0)) Z <| bm 101 (.bool false) Z Z <| am5 Z Z Z ?_;by_cases h3:e.kind=3∨e.kind=4
 ·refine se 104 Z h3 <| ae Z <| bt 1 Z Z Z <| bg Z Z Z (I7) ?_;rw [htag h3];refine ae Z <| nq Z (sj Z Z (mq 0 0 0 0)) Z <| bm 109 (.bool false) Z Z <| am5 Z Z Z <| akv <| aj Z <| ak <| bh <| ab <| akw <| ae Z <| akv <| ai <| ar Z Z (af 3 [] Z) ?_;exact ⟨rfl,rfl⟩
 ·refine sq 104 Z h3 ?_
  (iterate 8 refine ae Z ?_)
  refine akv <| aj Z <| ak <| bh <| ab <| akw <| ae Z <| akv <| ai <| ar Z Z (af 3 [] Z) ?_;exact ⟨rfl,rfl⟩
theorem DK.of_pl {k:Nat} {rs rs':List Rp} (h:DK k rs) (hp:rs'.map Rp.pl=rs.map Rp.pl) (hw:∀ r∈rs',RW r):DK k rs':=by
 refine ⟨by rw [hp];exact h.w,hw,by have:=am7 List.length hp;rw [anf,anf] at this;have:=h.n;omega,fun r hr=> ?_⟩;have:r.pl∈rs.map Rp.pl:=by rw [← hp];exact anb.2 ⟨r,hr,rfl⟩
 obtain ⟨x,hx,h1⟩:=anb.1 this;have e1:r.ts.map Tg.pl=x.ts.map Tg.pl:=(am7 RP.ts h1).symm;have e2:r.ms=x.ms:=(am7 RP.ms h1).symm;have hb:=h.b x hx;refine ⟨by have:=am7 List.length e1;rw [anf,anf] at this;omega,by rw [e2];exact hb.2.1,fun g hg=> ?_⟩;have:g.pl∈x.ts.map Tg.pl:=by rw [← e1];exact anb.2 ⟨g,hg,rfl⟩
 obtain ⟨y,hy,h2⟩:=anb.1 this;have e3:g.hs=y.hs:=(am7 TG.hs h2).symm;rw [e3];exact hb.2.2 y hy
def akd (k:Nat) (t:Tb) (e:Ev) (F:List SP) (u:Value) (F':List SP):Prop :=
 ∃ t':Tb,u = .tuple ⟨[tbV t',ii 0]⟩∧t'.V=wc t.V e.r e.n∧ve (t'.rs.map Rp.pl)∧(∀ p,atP p (t'.rs.map Rp.pl)=uc e p (atP p (t.rs.map Rp.pl)))∧(∀ r∈t'.rs,RW r)∧t'.rs.length≤k+3∧F'=tbP t'++F
theorem Bh {k:Nat} (hk:TK t) (hd:DK k t.rs) (h9:k≤800) (hN:Nxt t.V e) (hew:EW e) (hr:e.repo.size≤1000) (ht:e.tag.size≤1000) (hfr:∀ p,∀ x∈atP p (t.rs.map Rp.pl),x.d≠dotE e) (hT:∀ w,Sat b F w→TR w t) (he:∀ w,Sat b F w→ER w e) :
  SC Tryz.prog jB [tbV t,evV e] b F (akd k t e F):=by
 have h32:=hew.l32;have el:=di h32;have hvn:=hk.w.vn;refine aw Tryz.func17 Z Z Z <| akw <| bx Z Z Z Z Z fun g2=>bx Z Z Z Z Z fun g3=>db Z Z Z Z Z fun g4=>ae Z <| akv <| ad <| akw <| bt 2 Z Z Z ?_
 have hT3:∀ w,Sat b (pt g4 bj [.slice none 0 0,.slice none 0 0]::pt g3 ba (evC e)::pt g2 bj (tbC t)::F) w→TR w t:=up hT (af 3 [] Z);refine bg Z Z Z (nA hk hT3) <| ae Z <| aan <| am4 Z Z <| akv <| aj Z <| ak <| ab <| ad <| akw <| bt 2 Z Z Z ?_;refine du 1 Z Z Z Z Z Z (dj (by rw [el];rfl)) Z ?_;refine bg Z Z Z (akc hN hvn hew (fun w H=>(hT3 w H).v) (up he (af 3 [] Z))) <| ae Z <| aan <| am4 Z Z <| akv <| aj Z <| ak <| ab <| akw <| bt 2 Z Z Z <| bf Z Z Z (Z2 hk.w hT3) ?_;rintro _ _ ⟨vv,A,c,rs',rfl,hpl,hrw,rfl⟩;refine b9 (fun w H=>(H.oat (k:=0) Z).form) ?_;rintro ⟨Av,cv,rfl,_,_,_⟩;refine ae Z <| bx Z Z Z Z Z fun gd=> ?_;have hd':=hd.of_pl hpl hrw;refine eo (G:=dkP gd (.slice Av t.V.length cv) A c rs' (rZ (.slice Av t.V.length cv) t.V::pt g4 bj [.slice none 0 0,.slice none 0 0]::pt g3 ba (evC e)::pt g2 bj (tbC t)::F)) (af 7 [0,2,3,1,4,5,6] Z) <| ae Z <| akv ?_;refine rN (S:=Nat × Nat × Nat × List Rp) (fun _=> [(2,pp g2),(3,pp g3),(4,pp g4),(8,pp gd)])
  (fun s=>dkP gd (.slice Av t.V.length cv) (some ⟨s.1,s.2.1,none⟩) s.2.2.1 s.2.2.2 (rZ (.slice Av t.V.length cv) t.V::pt g4 bj [.slice none 0 0,.slice none 0 0]::pt g3 ba (evC e)::pt g2 bj (tbC t)::F)) (fun s=>DK (k+3) s.2.2.2∧∀ p,atP p (s.2.2.2.map Rp.pl)=uc e p (atP p (t.rs.map Rp.pl))) ?_ ?_
 ·refine cn flo (pt g3 ba (evC e)::pt g2 bj (tbC t)::F) (by decide +kernel) (af 7 [5,6] Z) ?_
  (iterate 10 refine ay Z Zl ?_)
  refine cl 0 Z Z Z Z ?_;have hk4:e.kind=1∨e.kind=2∨e.kind=3∨e.kind=4:=by have:=hN.k;omega
  have hfr':∀ p,∀ x∈atP p (rs'.map Rp.pl),x.d≠dotE e:=by rw [hpl];exact hfr
  rcases hk4 with hk4 | hk4 | hk4 | hk4
  ·refine cz 36 (ii 1) Z (by rw [hk4]) ?_;refine Nb Z Z ⟨⟨by decide,by decide⟩,anz rfl⟩ ?_;refine js 0 Z Z Z Z Z Z (dj (by rw [el];rfl)) Z Z ?_;refine d9 Z Z Z Z (Zw (F:=rZ (.slice Av t.V.length cv) t.V::pt g4 bj [.slice none 0 0,.slice none 0 0]::pt g3 ba (evC e)::pt g2 bj (tbC t)::F) hd' h9 hew hr hk4 hfr') ?_;rintro u _ ⟨g,o,c',rs2,q1,q2,rfl⟩;refine ⟨af 7 [5,6] rfl,(aq ?_)⟩;exact eK (g,o,c',rs2) ax ⟨q1,fun p=>by rw [q2,hpl]⟩
  ·refine cz 36 (ii 2) Z (by rw [hk4]) ?_;refine Nb Z Z ⟨⟨by decide,by decide⟩,anz rfl⟩ ?_;refine js 0 Z Z Z Z Z Z (dj (by rw [el];rfl)) Z Z ?_;refine d9 Z Z Z Z (Zx (F:=rZ (.slice Av t.V.length cv) t.V::pt g4 bj [.slice none 0 0,.slice none 0 0]::pt g3 ba (evC e)::pt g2 bj (tbC t)::F) hd' h9 hew hr hk4 (up he (af 4 [] Z))) ?_;rintro u _ ⟨g,o,c',rs2,q1,q2,rfl⟩;refine ⟨af 7 [5,6] rfl,(aq ?_)⟩;exact eK (g,o,c',rs2) ax ⟨q1,fun p=>by rw [q2,hpl]⟩
  ·refine cz 36 (ii 3) Z (by rw [hk4]) ?_;refine Nb Z Z ⟨⟨by decide,by decide⟩,anz rfl⟩ ?_;refine js 0 Z Z Z Z Z Z (dj (by rw [el];rfl)) Z Z ?_;refine d9 Z Z Z Z (U1 (F:=rZ (.slice Av t.V.length cv) t.V::pt g4 bj [.slice none 0 0,.slice none 0 0]::pt g3 ba (evC e)::pt g2 bj (tbC t)::F) hd' h9 hew hr ht hk4 (up he (af 4 [] Z)) hfr') ?_;rintro u _ ⟨g,o,c',rs2,q1,q2,rfl⟩;refine ⟨af 7 [5,6] rfl,(aq ?_)⟩;exact eK (g,o,c',rs2) ax ⟨q1,fun p=>by rw [q2,hpl]⟩
  ·refine cz 36 (ii 4) Z (by rw [hk4]) ?_;refine Nb Z Z ⟨⟨by decide,by decide⟩,anz rfl⟩ ?_;refine js 0 Z Z Z Z Z Z (dj (by rw [el];rfl)) Z Z ?_;refine d9 Z Z Z Z (U2 (F:=rZ (.slice Av t.V.length cv) t.V::pt g4 bj [.slice none 0 0,.slice none 0 0]::pt g3 ba (evC e)::pt g2 bj (tbC t)::F) hd' h9 hew hr ht hk4 (up he (af 4 [] Z))) ?_;rintro u _ ⟨g,o,c',rs2,q1,q2,rfl⟩;refine ⟨af 7 [5,6] rfl,(aq ?_)⟩;exact eK (g,o,c',rs2) ax ⟨q1,fun p=>by rw [q2,hpl]⟩
 rintro ⟨g,o,c',rs2⟩ ⟨q1,q2⟩;dsimp only at q1 q2 ⊢;refine akw <| ae Z <| bf Z Z Z (Z1 q1 (by omega)) ?_;rintro _ _ ⟨c2,rs3,p1,p2,p3,rfl⟩;refine akv <| ad <| jc flo 9 (pt gd il [.slice Av t.V.length cv,.slice (some ⟨g,o,none⟩) rs3.length c2]::pt g3 ba (evC e)::F) [] Z (by decide +kernel) (af 7 [0,5] Z) ?_
 (iterate 5 refine ay Z Zl ?_)
 refine cl 0 Z Z Z Z <| ay Z Zl <| cl 1 Z Z Z Z <| d9 Z Z Z Z (SC.ofMade fun w H=>bJ (xs:=t.V) (r:=e.r) (n:=e.n) (vlZ (k:=3) Z w H) (by omega)) ?_;rintro v _ rfl;refine ⟨af 8 [1,6] rfl,(aq <| jd Z (dc _) <| ix (fun w H=>(H.oat (k:=0) Z).form) ?_)⟩;rintro ⟨A',c6,rfl,_,_,_⟩;refine ay Z Zl <| ay Z Zl <| ay Z Zl <| aM 1 Z Z Z Z Z Z Z Z Z Z Z (dc _) <| aq <| ab <| akw <| am5 Z Z Z <| bt 1 Z Z Z <| eu 5 Z Z Z Z <| ae Z <| akv <| ai <| fw Z (.agg 5 Z Z Z Z Z (.tmp Z .nil)) (af 8 [0,2,3] Z) ?_;refine ⟨⟨.slice A' (wc t.V e.r e.n).length c6,wc t.V e.r e.n,.slice (some ⟨g,o,none⟩) rs3.length c2,rs3⟩,rfl,rfl,by dsimp only;rw [p1];exact Ut q1.w,fun p=>by dsimp only;rw [p1,Ju q1.w,q2],p2,p3,rfl⟩
end

theorem Qx {a c:SP} (B F:List SP):(B++a::c::F).Perm (a::c::(B++F)):=an2.trans (List.Perm.cons _ an2)
theorem tz {P:Program} {f:FuncId} {args:List Value} {b:World} {v:Value} {X Y:List SP} (hp:X.Perm Y) (h:SC P f args b Y (fun u F'=>u=v∧F'=Y)):SC P f args b X (fun u F'=>u=v∧F'=X):=by
 refine (h.ent (je hp)).out ?_;rintro u _ ⟨h1,rfl⟩;exact ⟨_,je hp.symm,h1,rfl⟩
section
variable {b:World} {F:List SP}
theorem U5 {a c:Int × Int}:SC Tryz.prog zP [y3 a,y3 c] b F (fun v F'=>v=ii (ahD a c)∧F'=F):=by
 refine aw Tryz.func238 Z Z Z <| akw <| bx Z Z Z Z Z fun g2=>bx Z Z Z Z Z fun g3=>ae Z <| akv <| ad <| cn flo (pt g3 t_api_Dot [ii c.1,ii c.2]::pt g2 t_api_Dot [ii a.1,ii a.2]::F) (by decide +kernel) ax <| ay Z Zl <| cl 1 Z Z Z Z <| ay Z Zl <| cl 0 Z Z Z Z <| dh Z Z Z Z (dI) ax <| ay Z Zl <| cl 1 Z Z Z Z <| ay Z Zl <| cl 0 Z Z Z Z <| dh Z Z Z Z (dI) ax ?_
 skip
 refine yZ [_,_] Z Z Z Z Z Z Z Z Z Z (af 2 [0,1] Z) fun g4=>dh Z Z Z Z (Qi) ((af 3 [1,2] Z)) <| ay Z Zl <| aq <| ab <| ai <| ar Z Z (af 3 [] Z) ?_
 exact ⟨rfl,rfl⟩
theorem U6 {x y:Ev}:SC Tryz.prog fG [evV x,evV y] b F (fun v F'=>v=ii (ahD (dotE x) (dotE y))∧F'=F):=by
 refine aw Tryz.func237 Z Z Z <| akw <| bx Z Z Z Z Z fun g2=>bx Z Z Z Z Z fun g3=>ae Z <| aan <| ae Z <| bt 1 Z Z Z <| ae Z <| bt 0 Z Z Z <| bg Z Z Z (U5 (a:=dotE x) (c:=dotE y)) <| ae Z <| akv <| ai <| ar Z Z (af 2 [] Z) ?_
 exact ⟨rfl,rfl⟩
variable {fi ft:Nat} [Bodied Tryz.prog fi] [Bodied Tryz.prog ft] {pi pf:List Value} {is:Ev→Bool} {tk:Ev→Ev→Bool} {x e:Ev} {l:List Ev}
abbrev Qy (tk:Ev→Ev→Bool) (x e:Ev):Bool:=tk x e&&fq e.deps x.r x.n
theorem Qz {g5 gx:Nat} (h32:x.id.length=32) (e32:e.id.length=32) (he:∀ w,Sat b F w→ER w e) (ht:∀ B:List SP,SC Tryz.prog ft ([evV x,evV e]++pf) b (B++F) (fun u F'=>u = .bool (tk x e)∧F'=B++F)) :
  SC Tryz.prog bF [evV e,pp g5,pp gx] b (pt gx ba (evC x)::pt g5 gy [.func (.func ft) ⟨[]⟩ ⟨pf⟩]::F) (fun u F'=>u = .bool (Qy tk x e)∧F'=pt gx ba (evC x)::pt g5 gy [.func (.func ft) ⟨[]⟩ ⟨pf⟩]::F):=by
 have xl:=di h32;have el:=di e32;refine aw Tryz.func235 Z Z Z <| akw <| bx Z Z Z Z Z fun g3=>ae Z <| aan <| bt 2 Z Z Z ?_
 refine du 1 Z Z Z Z Z Z (dj (by rw [xl];rfl)) Z ?_;refine du 0 Z Z Z Z Z Z (dj (by rw [el];rfl)) Z ?_;refine bg Z Z Z (ht [_,_,_]) ?_;unfold Qy;cases tk x e with
 | false =>
  (iterate 8 refine ae Z ?_)
  refine akv <| ai <| ar Z Z (af 3 [1,2] Z) ?_;exact ⟨rfl,rfl⟩
 | true =>
  refine am4 Z Z <| bt 0 Z Z Z <| ae Z <| bt 1 Z Z Z <| bg Z Z Z (uE (r:=x.r) (n:=x.n) (fun w H=>(he w (H.ent (af 3 [] Z))).dv)) <| am4 Z Z <| akv <| ai <| ar Z Z (af 3 [1,2] Z) ?_;exact ⟨rfl,rfl⟩
abbrev goB (is:Ev→Bool) (tk:Ev→Ev→Bool) (l:List Ev) (x:Ev):Bool:= !is x || l.any (Qy tk x)
theorem U7 {g3 g4 g5:Nat} {v:Value} (h32:x.id.length=32) (hl:∀ w,Sat b F w→EL w v l) (hle:∀ e∈l,e.id.length=32) (hn:l.length≤100000) (hi:∀ B:List SP,SC Tryz.prog fi ([evV x]++pi) b (B++F) (fun u F'=>u = .bool (is x)∧F'=B++F)) (ht:∀ e∈l,∀ B:List SP,SC Tryz.prog ft ([evV x,evV e]++pf) b (B++F) (fun u F'=>u = .bool (tk x e)∧F'=B++F)) (hv1:v.oneCell'=true) :
  SC Tryz.prog fF [evV x,pp g4,pp g3,pp g5] b (pt g5 gy [.func (.func ft) ⟨[]⟩ ⟨pf⟩]::pt g4 ja [.func (.func fi) ⟨[]⟩ ⟨pi⟩]::pt g3 p8 [v]::F) (fun u F'=>u = .bool (goB is tk l x)∧F'=pt g5 gy [.func (.func ft) ⟨[]⟩ ⟨pf⟩]::pt g4 ja [.func (.func fi) ⟨[]⟩ ⟨pi⟩]::pt g3 p8 [v]::F):=by
 have xl:=di h32;refine aw Tryz.func233 Z Z Z <| akw <| bx Z Z Z Z Z fun gx=>ae Z <| aan <| bt 2 Z Z Z ?_
 refine du 0 Z Z Z Z Z Z (dj (by rw [xl];rfl)) Z ?_;refine bg Z Z Z (hi [_,_,_,_]) ?_;unfold goB;cases is x with
 | false =>
  (iterate 7 refine ae Z ?_)
  refine akv <| ai <| ar Z Z (af 4 [1,2,3] Z) ?_;exact ⟨rfl,rfl⟩
 | true =>
  refine am4 Z Z <| bt 3 Z Z Z <| ae Z ?_;refine bg Z Z Z (ajx (D:=l) (p:=Qy tk x) (f:=bF) (pre:= []) (post:= [pp g5,pp gx]) (fun e he B=>by
   refine tz (Qx B _) <| Qz (F:=B++(pt g4 ja [.func (.func fi) ⟨[]⟩ ⟨pi⟩]::pt g3 p8 [v]::F)) h32 (hle e he) (fun w H=>(hl w ((H.ent (qr B)).ent (af 2 [] Z))).er e he) (fun B2=> ?_);have:=ht e he (B2++(B ++ [pt g4 ja [.func (.func fi) ⟨[]⟩ ⟨pi⟩],pt g3 p8 [v]]));simpa using this) (fun e he=>di (hle e he)) (fun w H=>(hl w (H.ent (af 4 [] Z))).sl) hn) ?_
  refine am4 Z Z <| akv <| ai <| ar Z Z (af 4 [1,2,3] Z) ?_;exact ⟨rfl,rfl⟩
structure ake (is:Ev→Bool) (tk:Ev→Ev→Bool) (l:List Ev) (hs:List Hd):Prop where
 mem:∀ h,h∈hs↔∃ x∈l,goB is tk l x=false∧h=hdE x
 rise:(l.map dotE).Nodup→nk hs
 len:hs.length≤l.length
theorem Z3 {a c d:Int × Int} (h1:¬ ahD c a<0) (h2:¬ ahD d c<0):¬ ahD d a<0:=by
 rw [gJ] at *;unfold ltD at *;omega
theorem Z4 {a c:Int × Int} (h1:ahD a c<0):¬ ahD c a<0:=by
 rw [gJ] at *;unfold ltD at *;omega
theorem Q0 {v:Value} (hl:∀ w,Sat b F w→EL w v l) (hle:∀ e∈l,e.id.length=32) (hn:l.length≤12) (hi:∀ x∈l,∀ B:List SP,SC Tryz.prog fi ([evV x]++pi) b (B++F) (fun u F'=>u = .bool (is x)∧F'=B++F)) (ht:∀ x∈l,∀ e∈l,∀ B:List SP,SC Tryz.prog ft ([evV x,evV e]++pf) b (B++F) (fun u F'=>u = .bool (tk x e)∧F'=B++F)) :
  SC Tryz.prog zN [v,.func (.func fi) ⟨[]⟩ ⟨pi⟩,.func (.func ft) ⟨[]⟩ ⟨pf⟩] b F (fun u F'=>∃ hs,ake is tk l hs∧F'=rHs u hs::F):=by
 refine aw Tryz.func153 Z Z Z <| bu (fun w H=>cp (hl w H).sl) ?_;rintro ⟨A,c,rfl,_⟩;refine bu (p:=∀ e∈l,∀ u∈evC e,u.oneCell'=true) (fun w H e he=>by
  have h1:=vg ((hl w H).er e he);exact kp h1.1 h1.2) fun hone=> ?_
 refine akw <| bx Z Z Z Z Z fun g3=>bx Z Z Z Z Z fun g4=>bx Z Z Z Z Z fun g5=>ae Z <| aan <| bt 2 Z Z Z <| bf Z Z Z (Es (l:=l) (fun w H=>(hl w (H.ent (af 3 [] Z))).sl) hone (by omega)) ?_
 rintro vc _ rfl;refine b9 (fun w H=>(H.oat (k:=0) Z).form) ?_;rintro ⟨A1,c1,rfl,_,_,_⟩;refine ae Z ?_;refine bf Z Z Z (Xd (D:=l) (A:=A1) (c:=c1) (p:=goB is tk l) (f:=fF) (pre:= []) (post:= [pp g4,pp g3,pp g5]) (F:=pt g5 gy [.func (.func ft) ⟨[]⟩ ⟨pf⟩]::pt g4 ja [.func (.func fi) ⟨[]⟩ ⟨pi⟩]::pt g3 p8 [.slice A l.length c]::F) (fun x hx B=>by
  refine tz (yN B F) ?_;refine U7 (F:=B++F) (hle x hx) (fun w H=>hl w (H.ent (qr B))) hle (by omega) (fun B2=> ?_) (fun e he B2=> ?_) Z
  ·have:=hi x hx (B2++B);rw [anh] at this;exact this
  ·have:=ht x hx e he (B2++B);rw [anh] at this;exact this) (fun e he=>di (hle e he)) hone (by omega)) ?_
 rintro _ _ ⟨rfl,rfl⟩;have hfl:(l.filter fun x=> !goB is tk l x).length≤l.length:=apc _ _;have hfm:∀ x∈l.filter (fun x=> !goB is tk l x),x∈l:=fun x hx=>(anx.1 hx).1
 have hmm:∀ x,x∈l.filter (fun x=> !goB is tk l x)↔x∈l∧goB is tk l x=false:=fun x=>by rw [anx];simp
 have hsb:(l.filter fun x=> !goB is tk l x).Sublist l:=arg;generalize (l.filter fun x=> !goB is tk l x)=S at *;refine ae Z <| aan <| ae Z <| bf Z Z Z (aj4 (D:=S) (A:=A1) (c:=c1) (cm:=fun x y=>ahD (dotE x) (dotE y)) (f:=fG) (fun x _ y _ B=>U6) (fun e he=>di (hle e (hfm e he))) (fun e he=>hone e (hfm e he)) (fun x _ y _ z _ h1 h2=>Z3 h1 h2) (fun x _ y _ h=>Z4 h) Z (by omega)) ?_;rintro _ _ ⟨M,m1,m2,rfl⟩;have hMl:=m1.length_eq;have hMm:∀ x∈M,x∈l:=fun x hx=>hfm x (m1.mem_iff.1 hx)
 have hMz:∀ x∈M,(evC x).length=39:=fun x hx=>di (hle x (hMm x hx))
 refine b9 (fun w H=>(H.oat (k:=0) Z).form) ?_;rintro ⟨_,_,hv9,hnc,_,q3⟩;cases hv9;refine aan <| ae Z <| akv <| ad <| akw <| am5 Z Z Z <| akv <| am <| dt (S:=Nat × Option Addr × Nat) (fun s=> [(8,.slice s.2.1 s.1 s.2.2),(17,.slice A1 S.length c1),(18,ii S.length),(19,ii s.1)]) (fun s=>row t_api_Held 34 (.slice s.2.1 s.1 s.2.2) s.1 (wx ((M.take s.1).map hdE))::row ba 39 (.slice A1 S.length c1) S.length (flC evC M)::F) (fun s=>s.1≤S.length) (fun s=>S.length - s.1) (0,none,0) ((df t_api_Held 34 Z).trans (af 5 [0,1] Z)) (anq _) ?_;rintro ⟨i,A8,c8⟩ hi8;dsimp only at hi8 ⊢;refine akw <| ae Z <| akv <| ad ?_;refine de Z (fun h1=> ?_) (fun h1=> ?_)
 ·have h1':i<M.length:=by omega
  obtain ⟨gg,oo,rfl⟩:=q3 (by omega);have hxm:=hMm _ (ana h1');have fx:=pa hMz h1';have hsn:M.take (i+1)=M.take i ++ [M[i]]:=ang h1';have hx32:=hle _ hxm;have hx1:=hone _ hxm;generalize M[i]=y at *;have yl:=di hx32;have xl:(hdC (hdE y)).length=34:=mu hx32;refine ak <| ab <| ad <| am <| akw <| az Z ?_;refine vw 1 (i*39) Z Z Z Z Z Z Z (by rw [bq,am6]) (by omega) fx (by rw [yl];rfl) ?_;refine db Z Z Z Z Z fun g10=> ?_;refine fh 0 Z Z Z Z Z Z Z yl hx1 (by rw [yl];rfl) ?_;refine akv <| aa <| am4 Z Z <| bt 0 Z Z Z <| ae Z <| du 0 Z Z Z Z Z Z (fU hx32) Z ?_;refine Sk Z Z Z ⟨rfl,(by show (u8s y.id).length=32;rw [dr,hx32]),trivial⟩ ?_;refine bm 28 (hdV (hdE y)) Z Z <| lr Z Z Z Z Z Z Z xl (by decide) fun gl=> ?_;refine ef 2 Z Z Z Z Z Z Z Z Z (m:=1) (news:=hdC (hdE y)) (fun w' H=>(H.blk (k:=0) Z).sl (by rw [xl]) (by decide)) (rg _) (by omega) (fun _=>rfl) fun v8=> ?_;refine b9 (fun w H=>(H.oat (k:=2) Z).form) ?_;rintro ⟨A9,c9,rfl,_,_,_⟩;refine ae Z <| ac <| bh <| ab <| aa <| az Z <| ae Z <| ac ?_;have e1:wx ((M.take i).map hdE)++hdC (hdE y)=wx ((M.take (i+1)).map hdE):=by
   show flC hdC _++_=flC hdC _;rw [hsn,anu,fu];simp [flC]
  rw [e1];rw [show (i:Int)+1=((i+1:Nat):Int) by omega];refine cw (i+1,A9,c9) (af 4 [2,3] Z) (show i+1≤_ by omega)
 ·obtain rfl:i=S.length:=by omega
  refine bz <| au <| av <| ap <| ab <| akw <| am4 Z Z <| akv <| ai ?_;have e1:M.take S.length=M:=an1 (by omega);rw [e1];have hml:S.length=(M.map hdE).length:=by rw [anf];omega
  refine ar Z Z (af 2 [0] Z) ?_;refine ⟨M.map hdE,⟨fun h=> ?_,fun hnd=> ?_,by rw [anf];omega⟩,by show _=row _ _ _ _ _::_;rw [← hml];rfl⟩
  ·rw [anb]
   constructor
   ·rintro ⟨x,hx,rfl⟩;have:=(hmm x).1 (m1.mem_iff.1 hx);exact ⟨x,this.1,this.2,rfl⟩
   ·rintro ⟨x,hx,h2,rfl⟩;exact ⟨x,m1.mem_iff.2 ((hmm x).2 ⟨hx,h2⟩),rfl⟩
  ·have hnM:(M.map dotE).Nodup:=(m1.map dotE).nodup_iff.2 ((hsb.map dotE).nodup hnd);rw [aqp,ap7] at hnM;unfold nk;rw [ap7];refine (m2.and hnM).imp fun {x y} hxy=> ?_;have h3:=hxy.1;rw [gJ] at h3;exact aqu fun h4=>hxy.2 (Jq h4 h3)
end

abbrev ofB (repo tag:ByteArray) (e:Ev):Bool:=decide (e.repo=repo)&&decide (e.tag=tag)
abbrev Bi (e:Ev):Bool:=decide (e.kind=3) || decide (e.kind=4)
theorem nC (a c:ByteArray):decide (a.data=c.data)=decide (a=c):=aqd.2 ⟨fun h=>ari h,fun h=>by rw [h]⟩
section
variable {b:World} {F:List SP} {repo tag:ByteArray} {e x:Ev} {g4 g5 g7:Nat}
theorem E4:SC Tryz.prog sN [evV e] b F (fun v F'=>v = .bool (Bi e)∧F'=F):=by
 refine aw Tryz.func101 Z Z Z <| akw <| bx Z Z Z Z Z fun g1=>ae Z <| aan <| ae Z <| bt 0 Z Z Z <| am4 Z Z ?_
 unfold Bi;cases decide (e.kind=3) with
 | true =>
  (iterate 5 refine ae Z ?_)
  refine akv <| ai <| ar Z Z (af 1 [] Z) ?_;exact ⟨rfl,rfl⟩
 | false =>
  refine ae Z <| bt 0 Z Z Z <| am5 Z Z Z <| akv <| ai <| ar Z Z (af 1 [] Z) ?_;exact ⟨rfl,rfl⟩
theorem Q1:SC Tryz.prog yv [evV e,pp g4,pp g5] b (pt g5 jv [.string tag]::pt g4 jv [.string repo]::F) (fun v F'=>v = .bool (ofB repo tag e)∧F'=pt g5 jv [.string tag]::pt g4 jv [.string repo]::F):=by
 refine aw Tryz.func152 Z Z Z <| akw <| bx Z Z Z Z Z fun g3=>ae Z <| aan <| ae Z <| bt 0 Z Z Z <| bt 2 Z Z Z <| am4 Z Z <| bm 9 (.bool (decide (e.repo=repo))) Z (am7 Value.bool (nC _ _)) ?_
 unfold ofB;cases decide (e.repo=repo) with
 | true =>
  refine ae Z <| bt 0 Z Z Z <| bt 1 Z Z Z <| am5 Z Z Z <| akv <| ai <| ar Z Z (af 1 [] Z) ?_;exact ⟨am7 Value.bool (nC _ _),rfl⟩
 | false =>
  (iterate 6 refine ae Z ?_)
  refine akv <| ai <| ar Z Z (af 1 [] Z) ?_;exact ⟨rfl,rfl⟩
abbrev sbP (repo tag:ByteArray) (g4 g5 g7:Nat) (F:List SP):List SP:=pt g7 ja [.func (.func yv) ⟨[]⟩ ⟨[pp g4,pp g5]⟩]::pt g5 jv [.string tag]::pt g4 jv [.string repo]::F
theorem Z5 (h32:x.id.length=32):SC Tryz.prog yw [evV x,pp g7] b (sbP repo tag g4 g5 g7 F) (fun v F'=>v = .bool (decide (x.kind=3)&&ofB repo tag x)∧F'=sbP repo tag g4 g5 g7 F):=by
 have xl:=di h32;refine aw Tryz.func154 Z Z Z <| akw <| bx Z Z Z Z Z fun g2=>ae Z <| aan <| ae Z <| bt 0 Z Z Z <| am4 Z Z ?_
 cases decide (x.kind=3) with
 | false =>
  (iterate 5 refine ae Z ?_)
  refine akv <| ai <| ar Z Z (af 1 [] Z) ?_;exact ⟨rfl,rfl⟩
 | true =>
  refine bt 1 Z Z Z ?_;refine du 0 Z Z Z Z Z Z (dj (by rw [xl];rfl)) Z ?_;refine bg Z Z Z (tz (Qx [_,_] F) (Q1 (e:=x) (repo:=repo) (tag:=tag) (g4:=g4) (g5:=g5) (F:= [_,_]++F))) <| am4 Z Z <| akv <| ai <| ar Z Z (af 1 [] Z) ?_;exact ⟨rfl,rfl⟩
theorem Z6 (h32:e.id.length=32):SC Tryz.prog yx [evV x,evV e,pp g7] b (sbP repo tag g4 g5 g7 F) (fun v F'=>v = .bool (Bi e&&ofB repo tag e)∧F'=sbP repo tag g4 g5 g7 F):=by
 have el:=di h32;refine aw Tryz.func155 Z Z Z <| akw <| bx Z Z Z Z Z fun g3=>bx Z Z Z Z Z fun g6=>ae Z <| aan ?_
 refine du 0 Z Z Z Z Z Z (dj (by rw [el];rfl)) Z ?_;refine bg Z Z Z (E4) ?_;cases Bi e with
 | false =>
  (iterate 6 refine ae Z ?_)
  refine akv <| ai <| ar Z Z (af 2 [] Z) ?_;exact ⟨rfl,rfl⟩
 | true =>
  refine ae Z <| bt 2 Z Z Z ?_;refine du 0 Z Z Z Z Z Z (dj (by rw [el];rfl)) Z ?_;refine bg Z Z Z (tz (Qx [_,_,_] F) (Q1 (e:=e) (repo:=repo) (tag:=tag) (g4:=g4) (g5:=g5) (F:= [_,_,_]++F))) <| am4 Z Z <| akv <| ai <| ar Z Z (af 2 [] Z) ?_;exact ⟨rfl,rfl⟩
structure yO (p:Pl) (l:List Ev) (hs:List Hd):Prop where
 mem:∀ h,h∈hs↔qk l p h
 rise:(l.map dotE).Nodup→nk hs
 len:hs.length≤l.length
theorem qU {is:Ev→Bool} {tk:Ev→Ev→Bool} {l:List Ev}:goB is tk l x=false↔is x=true∧∀ e∈l,¬ (tk x e=true∧fq e.deps x.r x.n=true):=by
 unfold goB Qy;rw [Bool.or_eq_false_iff,aqx];simp
variable {l:List Ev}
theorem If {v:Value} (hl:∀ w,Sat b F w→EL w v l) (hle:∀ e∈l,e.id.length=32) (hn:l.length≤12):SC Tryz.prog nY [v,.string repo,.string tag] b F (fun u F'=>∃ hs,yO ⟨repo,some tag⟩ l hs∧F'=rHs u hs::F):=by
 refine aw Tryz.func61 Z Z Z <| akw <| bx Z Z Z Z Z fun g4=>bx Z Z Z Z Z fun g5=>ae Z <| aan <| ae Z <| db Z Z Z Z Z fun g7=>eu 0 Z Z Z Z <| aan <| am5 Z Z Z <| bf Z Z Z (Q0 (F:=sbP repo tag g4 g5 g7 F) (l:=l) (fi:=yw) (ft:=yx) (pi:= [pp g7]) (pf:= [pp g7]) (is:=fun x=>decide (x.kind=3)&&ofB repo tag x) (tk:=fun _ e=>Bi e&&ofB repo tag e) (fun w H=>hl w (H.ent (af 3 [] Z))) hle hn (fun x hx B=>tz (yN B F) (Z5 (F:=B++F) (hle x hx))) (fun x hx e he B=>tz (yN B F) (Z6 (F:=B++F) (hle e he)))) ?_
 rintro v8 _ ⟨hs,⟨h1,h2,h3⟩,rfl⟩;refine ae Z <| akv <| ai <| ar Z Z (af 4 [0] Z) <| ⟨hs,⟨fun h=> ?_,h2,h3⟩,rfl⟩;rw [h1];unfold qk zy zh
 constructor
 ·rintro ⟨x,hx,hg,rfl⟩;obtain ⟨g1,g2⟩:=qU.1 hg;simp only [anw,aoy] at g1;obtain ⟨k3,q1,q2⟩:=g1;refine ⟨x,hx,.inr ⟨k3,by rw [q1,q2]⟩,rfl,fun e he hc=>g2 e he ?_⟩;obtain ⟨hc1,hc2⟩:=hc;rcases hc1 with ⟨_,hc,_⟩ | ⟨hk,hc⟩
  ·cases am7 Pl.tag hc
  ·have t1:repo=e.repo:=am7 Pl.repo hc;have t2:tag=e.tag:=ao5 (am7 Pl.tag hc);exact ⟨by simp [Bi,ofB,t1,t2,hk],hc2⟩
 ·rintro ⟨x,hx,ha,rfl,hn⟩;refine ⟨x,hx,qU.2 ⟨?_,fun e he hc=>hn e he ?_⟩,rfl⟩
  ·rcases ha with ⟨_,hc⟩ | ⟨hk,hc⟩
   ·cases am7 Pl.tag hc
   ·have t1:repo=x.repo:=am7 Pl.repo hc;have t2:tag=x.tag:=ao5 (am7 Pl.tag hc);simp [ofB,t1,t2,hk]
  ·obtain ⟨hc1,hc2⟩:=hc;simp only [Bi,ofB,anw,aqw,aoy] at hc1;exact ⟨.inr ⟨hc1.1,by rw [hc1.2.1,hc1.2.2]⟩,hc2⟩
theorem Z7 {g3:Nat}:SC Tryz.prog xf [evV x,pp g3] b (pt g3 jv [.string repo]::F) (fun v F'=>v = .bool (decide (x.kind=1)&&decide (x.repo=repo))∧F'=pt g3 jv [.string repo]::F):=by
 refine aw Tryz.func156 Z Z Z <| akw <| bx Z Z Z Z Z fun g2=>ae Z <| aan <| ae Z <| bt 0 Z Z Z <| am4 Z Z ?_
 cases decide (x.kind=1) with
 | true =>
  refine ae Z <| bt 0 Z Z Z <| bt 1 Z Z Z <| am5 Z Z Z <| akv <| ai <| ar Z Z (af 1 [] Z) ?_;exact ⟨am7 Value.bool (nC _ _),rfl⟩
 | false =>
  (iterate 6 refine ae Z ?_)
  refine akv <| ai <| ar Z Z (af 1 [] Z) ?_;exact ⟨rfl,rfl⟩
theorem Z8 {g3:Nat} (hx:x.id.length=32) (he:e.id.length=32):SC Tryz.prog xg [evV x,evV e,pp g3] b (pt g3 jv [.string repo]::F) (fun v F'=>v = .bool (decide (e.kind=2)&&decide (e.repo=repo)&&decide (e.id=x.id))∧F'=pt g3 jv [.string repo]::F):=by
 refine aw Tryz.func157 Z Z Z <| akw <| bx Z Z Z Z Z fun g5=>bx Z Z Z Z Z fun g6=>ae Z <| aan <| ae Z <| bt 0 Z Z Z <| am4 Z Z ?_
 cases decide (e.kind=2) with
 | false =>
  (iterate 13 refine ae Z ?_)
  refine akv <| ai <| ar Z Z (af 2 [] Z) ?_;exact ⟨rfl,rfl⟩
 | true =>
  refine ae Z <| bt 0 Z Z Z <| bt 2 Z Z Z <| am5 Z Z Z <| bm 15 (.bool (decide (e.repo=repo))) Z (am7 Value.bool (nC _ _)) ?_;cases decide (e.repo=repo) with
  | false =>
   (iterate 7 refine ae Z ?_)
   refine akv <| ai <| ar Z Z (af 2 [] Z) ?_;exact ⟨rfl,rfl⟩
  | true =>
   refine ae Z <| du 0 Z Z Z Z Z Z (fU he) Z <| ae Z <| du 1 Z Z Z Z Z Z (fU hx) Z <| nq Z (nT (as00:=e.id) (bs:=x.id) Z Z he hx) Z <| am4 Z Z <| akv <| ai <| ar Z Z (af 2 [] Z) ?_;exact ⟨rfl,rfl⟩
theorem E5 {v:Value} (hl:∀ w,Sat b F w→EL w v l) (hle:∀ e∈l,e.id.length=32) (hn:l.length≤12):SC Tryz.prog lQ [v,.string repo] b F (fun u F'=>∃ hs,yO ⟨repo,none⟩ l hs∧F'=rHs u hs::F):=by
 refine aw Tryz.func62 Z Z Z <| akw <| bx Z Z Z Z Z fun g3=>ae Z <| aan <| am5 Z Z Z <| bf Z Z Z (Q0 (F:=pt g3 jv [.string repo]::F) (l:=l) (fi:=xf) (ft:=xg) (pi:= [pp g3]) (pf:= [pp g3]) (is:=fun x=>decide (x.kind=1)&&decide (x.repo=repo)) (tk:=fun x e=>decide (e.kind=2)&&decide (e.repo=repo)&&decide (e.id=x.id)) (fun w H=>hl w (H.ent (af 1 [] Z))) hle hn (fun x hx B=>tz an2 (Z7 (F:=B++F))) (fun x hx e he B=>tz an2 (Z8 (F:=B++F) (hle x hx) (hle e he)))) ?_
 rintro v8 _ ⟨hs,⟨h1,h2,h3⟩,rfl⟩;refine ae Z <| akv <| ai <| ar Z Z (af 2 [0] Z) <| ⟨hs,⟨fun h=> ?_,h2,h3⟩,rfl⟩;rw [h1];unfold qk zy zh
 constructor
 ·rintro ⟨x,hx,hg,rfl⟩;obtain ⟨g1,g2⟩:=qU.1 hg;simp only [anw,aoy] at g1;obtain ⟨k3,q1⟩:=g1;refine ⟨x,hx,.inl ⟨k3,by rw [q1]⟩,rfl,fun e he hc=>g2 e he ?_⟩;obtain ⟨hc1,hc2⟩:=hc;rcases hc1 with ⟨hk,hc,hi⟩ | ⟨hk,hc⟩
  ·have t1:repo=e.repo:=am7 Pl.repo hc;have t2:x.id=e.id:=hi;exact ⟨by simp [t1,t2,hk],hc2⟩
  ·cases am7 Pl.tag hc
 ·rintro ⟨x,hx,ha,rfl,hn⟩;refine ⟨x,hx,qU.2 ⟨?_,fun e he hc=>hn e he ?_⟩,rfl⟩
  ·rcases ha with ⟨hk,hc⟩ | ⟨_,hc⟩
   ·have t1:repo=x.repo:=am7 Pl.repo hc;simp [t1,hk]
   ·cases am7 Pl.tag hc
  ·obtain ⟨hc1,hc2⟩:=hc;simp only [anw,aoy] at hc1;exact ⟨.inl ⟨hc1.1.1,by rw [hc1.1.2],hc1.2.symm⟩,hc2⟩
end

theorem U8 (V:List Int) (i:Nat) (z:Int) (hi:i<V.length):spl (bM V) i [ii z]=bM (V.set i z):=by
 rw [spl,bM,bM,List.map_set,List.set_eq_take_append_cons_drop,if_pos (by rw [anf];omega)];simp
theorem nD (n:Nat) (l:List Ev):(r9 n l).length=n:=by rw [r9,anf,aq9]
theorem uZ {n i:Nat} {l:List Ev} (hi:i<(r9 n l).length):(r9 n l)[i]=mxG i l:=by simp [r9]
theorem Mj {n:Nat} {l:List Ev} {e:Ev} (h1:1≤e.r) (h2:e.r≤n):r9 n (l ++ [e])=(r9 n l).set (e.r - 1).toNat (max (mxG (e.r - 1).toNat l) e.n):=by
 apply aqr
 ·simp [r9]
 ·intro i hi hi2;rw [uZ,Js,List.getElem_set,uZ];by_cases h:(e.r - 1).toNat=i
  ·subst h;rw [if_pos (by omega),if_pos rfl]
  ·rw [if_neg (by omega),if_neg h]
section
variable {b:World} {F:List SP} {l:List Ev} {n:Nat}
theorem Mk {v:Value} (h1:1≤n) (h2:n≤16) (hl:∀ w,Sat b F w→EL w v l) (hle:∀ e∈l,e.id.length=32) (hr:∀ e∈l,1≤e.r∧e.r≤n) (hn:l.length≤100000):SC Tryz.prog sL [v,ii n] b F (fun u F'=>F'=rZ u (r9 n l)::F):=by
 refine aw Tryz.func65 Z Z Z <| bu (fun w H=>cp (hl w H).sl) ?_;rintro ⟨A,c,rfl,_,_,_,h4,_⟩;refine bu (p:=∀ e∈l,∀ u∈evC e,u.oneCell'=true) (fun w H e he=>by
  have h1:=vg ((hl w H).er e he);exact kp h1.1 h1.2) fun hone=> ?_
 refine akw <| ae Z <| akv <| ad <| akw <| am5 Z Z Z <| px 10 Z <| am5 Z Z Z <| akv <| oe 13 Z <| aj Z <| ak <| ab <| akw <| ae Z ?_;refine zE (sz:=1) (n:=n) (cs:=bM (r9 n [])) Z Z Z Z Z Z Z Z Z (by omega) (by
  have:r9 n []=List.replicate n 0:=by
   apply aqr
   ·simp [r9]
   ·intro i h1 h2;simp [r9,mxG]
  rw [this,bM,List.map_replicate];exact rY _ _) fun g5=> ?_
 refine ae Z <| akv <| ad <| akw <| am5 Z Z Z <| akv <| am <| dt (S:=Nat) (fun i=> [(1,ii n),(5,.slice (some ⟨g5,0,none⟩) n n),(16,.slice A l.length c),(17,ii l.length),(18,ii i)]) (fun i=>row fd 1 (.slice (some ⟨g5,0,none⟩) n n) n (bM (r9 n (l.take i)))::F) (fun i=>i≤l.length) (fun i=>l.length - i) 0 ax (anq _) ?_;intro i hi;refine akw <| ae Z <| akv <| ad ?_;refine de Z (fun h3=> ?_) (fun h3=> ?_);rotate_left
 ·obtain rfl:i=l.length:=by omega
  rw [an7];refine bz <| au <| av <| ap <| ab <| akw <| am4 Z Z <| akv <| ai <| ar Z Z ax ?_;show row fd 1 _ n _::F=row fd 1 _ _ _::F;rw [nD];rfl
 have h3':i<l.length:=by omega
 obtain ⟨gg,oo,rfl⟩:=h4 (by omega);have hm:=ana h3';have hc:∀ w,Sat b F w→∀ j,j<39→w.cell? ⟨gg,oo+i*39+j,none⟩=(evC l[i])[j]?:=fun w H j hj=>fb (hl w H).sl (fun e he=>di (hle e he)) h3' hj
 have hsn:l.take (i+1)=l.take i ++ [l[i]]:=ang h3';obtain ⟨q1,q2⟩:=hr _ hm;have xl:=di (hle _ hm);have x1:=hone _ hm;generalize l[i]=x at *;obtain ⟨V,hV⟩:∃ V,V=r9 n (l.take i):=⟨_,rfl⟩;have hvs:=Mj (l:=l.take i) q1 q2;rw [← hsn,← hV] at hvs;have hgl:V.length=n:=by rw [hV];exact nD n _
 have hix:(x.r - 1).toNat<V.length:=by omega
 have hgx:V[(x.r - 1).toNat]=mxG (x.r - 1).toNat (l.take i):=by
  subst hV;exact uZ _
 rw [← hV];have hset:=U8 V (x.r - 1).toNat (max V[(x.r - 1).toNat] x.n) hix;rw [hgx,← hvs] at hset;have hcell:∀ {F':List SP} {q:Nat},nth F' q=some (row fd 1 (.slice (some ⟨g5,0,none⟩) n n) n (bM V))→∀ w,Sat b F' w→w.cell? ⟨g5,0+(x.r - 1).toNat,none⟩=some (ii (mxG (x.r - 1).toNat (l.take i))):=fun hq w H=>by
  have h9:=(H.oat hq).sl;rw [← hgl] at h9;rw [← hgx];exact VL.at (f:=Value.int .i64) h9 (x.r - 1).toNat hix
 refine ak <| ab <| ad <| am <| akw <| az Z ?_;refine fc Z (fun w H=>cg (cs:=evC x) Z Z Z xl (fun j hj=>by rw [bq,am6];exact hc w (H.ent (af 1 [] Z)) j (by rw [xl] at hj;exact hj))) Z ?_;refine db Z Z Z Z Z fun g7=> ?_;refine fh 0 Z Z Z Z Z Z Z xl x1 (by rw [xl];rfl) ?_;refine aan <| am4 Z Z <| bt 0 Z Z Z <| am4 Z Z <| wz 26 Z <| am4 Z Z <| bt 0 Z Z Z <| am5 Z Z Z <| akv <| dL 32 Z <| ao Z <| jc flo 16 (pt g7 ba (evC x)::row fd 1 (.slice (some ⟨g5,0,none⟩) n n) n (bM V)::F) [] Z (by decide +kernel) ax <| ay Z Zl <| ay Z Zl <| ay Z Zl <| cl 0 Z Z Z Z <| cq Z Z <| ay Z Zl <| ay Z Zl <| ay Z Zl <| cl 0 Z Z Z Z <| cq Z Z <| cq Z Z ?_;refine ij Z (fun w H=>br (v:=ii (mxG (x.r - 1).toNat (l.take i))) Z Z Z (by rw [bq,aop];exact hcell (q:=1) Z w H)) Z Z ?_;refine ay Z Zl <| ay Z Zl <| cl 0 Z Z Z Z <| ay Z Zl <| aq <| jd Z (dc _) <| cq Z Z ?_;refine me 1 (x.r - 1).toNat Z Z Z Z Z Z Z Z Z hset Z (by rw [bq,aop]) (by simp [bM];omega) (by simp [Value.oneCell']) (dc _) ?_;refine aq <| bh <| ab <| aa <| az Z <| ae Z <| ac ?_;rw [show (i:Int)+1=((i+1:Nat):Int) by omega];refine cw (i+1) (af 2 [1] Z) (show i+1≤_ by omega)
theorem Q3 (h1:1≤n) (h2:n≤16):SC Tryz.prog Cn [ii n] b F (fun u F'=>∃ vv,u = .tuple ⟨[.agg ⟨[vv,.slice none 0 0]⟩,ii 0]⟩∧F'=rZ vv (List.replicate n 0)::F):=by
 refine aw Tryz.func12 Z Z Z <| akw <| db Z Z Z Z Z fun g2=>ae Z <| akv <| ad <| akw <| am5 Z Z Z <| px 6 Z <| am5 Z Z Z <| akv <| oe 9 Z <| aj Z <| ak <| ab <| akw <| ae Z ?_
 refine zE (sz:=1) (n:=n) (cs:=bM (List.replicate n 0)) Z Z Z Z Z Z Z Z Z (by omega) (by rw [bM,List.map_replicate];exact rY _ _) fun g12=> ?_;refine ae Z <| eu 1 Z Z Z Z <| ae Z <| akv <| ai <| fw Z (.agg 1 Z Z Z Z Z (.tmp Z .nil)) (af 2 [0] Z) ?_;exact ⟨_,rfl,by rw [rZ,apr]⟩
end

structure Q4 (n:Nat) (e:Ev):Prop where
 r1:1≤e.r
 r2:e.r≤n
 n1:1≤e.n
 n2:e.n≤1048576
 dl:e.deps.length=n
 dn:e.deps.all okNum=true
 own:e.deps.getD (e.r - 1).toNat 0=e.n - 1
 k1:1≤e.kind
 k2:e.kind≤4
 repo:mo (fe e.repo)=(0,0)
 tag:e.kind=3∨e.kind=4→po (fe e.tag)=(0,0)
section
variable {b:World} {F:List SP} {e:Ev} {n:Nat}
theorem U9 {x:Int}:SC Tryz.prog sM [ii x] b F (fun v F'=>v = .bool (!okNum x)∧F'=F):=by
 refine aw Tryz.func98 Z Z Z <| akw <| ae Z <| aan <| am5 Z Z Z ?_;refine np 5 Z (fun h=> ?_) (fun h=> ?_)
 ·refine am5 Z Z Z <| ae Z <| akv <| ai <| ar Z Z ax ?_;exact ⟨am7 Value.bool (by simp only [okNum];rw [ans (show ¬ 0≤x by omega)];rfl),rfl⟩
 ·refine am5 Z Z Z <| ae Z <| akv <| ai <| ar Z Z ax ?_;exact ⟨am7 Value.bool (by simp only [okNum];rw [ani (show 0≤x by omega),arj,apw];simp),rfl⟩
theorem Va (hew:EW e) (hn:n≤16) (hdl:e.deps.length≤1000000) (he:∀ w,Sat b F w→ER w e):SC Tryz.prog zI [evV e,ii n] b F (fun u F'=>∃ r,u=ii r∧(r=0↔Q4 n e)∧F'=F):=by
 have d1:=gF hew.dot.1;have d2:=gF hew.dot.2;unfold I64 at d1 d2;dsimp only at d1 d2;have h32:=hew.l32;have el:=di h32;refine aw Tryz.func29 Z Z Z <| bu (fun w H=>(he w H).dv.form) ?_;rintro ⟨A,c,hdv,_,_,_,q4⟩;refine akw <| bx Z Z Z Z Z fun g2=>ae Z <| aan <| ae Z <| akv <| ad <| am <| ad ?_
 have hee:∀ w,Sat b (pt g2 ba (evC e)::F) w→VL (Value.int .i64) w e.dv e.deps:=fun w H=>(he w (H.ent (af 1 [] Z))).dv
 refine cn flo _ (by decide +kernel) ax <| ay Z Zl <| ay Z Zl <| cl 0 Z Z Z Z <| ay Z Zl <| ay Z Zl ?_;by_cases k1:e.r<1
 ·refine yn 11 Z k1 ?_
  (iterate 29 refine ay Z Zl ?_)
  refine ay Z (.inr Z) ?_
  (iterate 17 refine ay Z Zl ?_)
  refine aq <| ab <| ao Z <| akw <| ae Z <| akv <| ai <| al <| ag <| ar Z Z (af 1 [] Z) ?_;exact ⟨_,rfl,⟨fun h=>absurd h (by decide),fun h=>by have:=h.r1;omega⟩,rfl⟩
 refine vr 11 Z k1 <| ay Z Zl <| ay Z Zl <| cl 0 Z Z Z Z <| ay Z Zl <| ay Z Zl <| ay Z Zl <| ay Z Zl ?_;by_cases k2:(n:Int)<e.r
 ·refine yn 18 Z k2 ?_
  (iterate 22 refine ay Z Zl ?_)
  refine ay Z (.inr Z) ?_
  (iterate 17 refine ay Z Zl ?_)
  refine aq <| ab <| ao Z <| akw <| ae Z <| akv <| ai <| al <| ag <| ar Z Z (af 1 [] Z) ?_;exact ⟨_,rfl,⟨fun h=>absurd h (by decide),fun h=>by have:=h.r2;omega⟩,rfl⟩
 refine vr 18 Z k2 <| ay Z Zl <| ay Z Zl <| cl 0 Z Z Z Z <| ay Z Zl <| ay Z Zl <| ay Z Zl ?_;by_cases k3:e.n<1
 ·refine yn 24 Z k3 ?_
  (iterate 16 refine ay Z Zl ?_)
  refine ay Z (.inr Z) ?_
  (iterate 17 refine ay Z Zl ?_)
  refine aq <| ab <| ao Z <| akw <| ae Z <| akv <| ai <| al <| ag <| ar Z Z (af 1 [] Z) ?_;exact ⟨_,rfl,⟨fun h=>absurd h (by decide),fun h=>by have:=h.n1;omega⟩,rfl⟩
 refine vr 24 Z k3 <| ay Z Zl <| ay Z Zl <| cl 0 Z Z Z Z <| ay Z Zl <| ay Z Zl <| ay Z Zl ?_;by_cases k4:1048576<e.n
 ·refine yn 30 Z k4 ?_
  (iterate 10 refine ay Z Zl ?_)
  refine ay Z (.inr Z) ?_
  (iterate 17 refine ay Z Zl ?_)
  refine aq <| ab <| ao Z <| akw <| ae Z <| akv <| ai <| al <| ag <| ar Z Z (af 1 [] Z) ?_;exact ⟨_,rfl,⟨fun h=>absurd h (by decide),fun h=>by have:=h.n2;omega⟩,rfl⟩
 refine vr 30 Z k4 <| ay Z Zl <| cl 0 Z Z Z Z <| cz 32 (.slice A e.deps.length c) Z hdv ?_
 (iterate 5 refine ay Z Zl ?_)
 by_cases k5:e.deps.length=n;rotate_left
 ·refine cz 37 (.bool true) Z (by
   show Value.bool (!decide _)=_;rw [ans (by omega)];rfl) ?_
  refine ay Z Zl <| ay Z Zl <| ay Z Zl <| ay Z (.inr Z) ?_
  (iterate 17 refine ay Z Zl ?_)
  refine aq <| ab <| ao Z <| akw <| ae Z <| akv <| ai <| al <| ag <| ar Z Z (af 1 [] Z) ?_;exact ⟨_,rfl,⟨fun h=>absurd h (by decide),fun h=>absurd h.dl k5⟩,rfl⟩
 refine cz 37 (.bool false) Z (by
  show Value.bool (!decide _)=_;rw [ani (by omega)];rfl) ?_
 refine ay Z Zl <| cl 0 Z Z Z Z <| ay Z Zl <| dh Z Z Z Z (He (q:=fun x=> !okNum x) (fun _ _=>U9) hee (by omega)) ax ?_;have hany:(e.deps.any fun x=> !okNum x) = !e.deps.all okNum:=by
  rw [apw];simp [an4]
 rw [hany];refine ay Z Zl <| ay Z Zl ?_;cases hall:e.deps.all okNum with
 | false =>
  (iterate 15 refine ay Z Zl ?_)
  refine aq <| ab <| ao Z <| akw <| ae Z <| akv <| ai <| al <| ag <| ar Z Z (af 1 [] Z) ?_;exact ⟨_,rfl,⟨fun h=>absurd h (by decide),fun h=>by have:=h.dn;rw [hall] at this;cases this⟩,rfl⟩
 | true =>
 refine cz 43 (.bool false) Z Z ?_;obtain ⟨gg,oo,rfl⟩:=q4 (by omega);have hi:(e.r - 1).toNat<e.deps.length:=by omega
 have hcell:∀ w,Sat b (pt g2 ba (evC e)::F) w→w.cell? ⟨gg,oo+(e.r - 1).toNat,none⟩=some (ii (e.deps.getD (e.r - 1).toNat 0)):=fun w H=>by
  have h1:=hee w H;rw [hdv] at h1;rw [jz hi];exact VL.at h1 (e.r - 1).toNat hi
 refine ay Z Zl <| cl 0 Z Z Z Z <| ay Z Zl <| ay Z Zl <| cl 0 Z Z Z Z <| cq Z Z <| cz 45 (.slice (some ⟨gg,oo,none⟩) e.deps.length c) Z hdv <| cq Z Z ?_;refine ij Z (fun w H=>br (v:=ii (e.deps.getD (e.r - 1).toNat 0)) Z Z Z (by rw [bq,aop];exact hcell w H)) Z Z ?_;refine ay Z Zl <| ay Z Zl <| cl 0 Z Z Z Z <| cq Z Z <| ay Z Zl <| ay Z Zl <| ay Z Zl ?_;by_cases k6:e.deps.getD (e.r - 1).toNat 0=e.n - 1;rotate_left
 ·refine cz 6 (.bool true) Z (by
   show Value.bool (!decide _)=_;rw [ans k6];rfl) ?_
  refine aq <| ab <| ao Z <| akw <| ae Z <| akv <| ai <| al <| ag <| ar Z Z (af 1 [] Z) ?_;exact ⟨_,rfl,⟨fun h=>absurd h (by decide),fun h=>absurd h.own k6⟩,rfl⟩
 refine cz 6 (.bool false) Z (by
  show Value.bool (!decide _)=_;rw [ani k6];rfl) ?_
 refine aq <| ab <| aj Z <| akw <| ae Z <| bt 0 Z Z Z <| am4 Z Z ?_;by_cases k7:e.kind<1
 ·refine se 62 Z k7 ?_
  (iterate 5 refine ae Z ?_)
  refine akv <| ao Z <| akw <| ae Z <| akv <| ai <| al <| ag <| ar Z Z (af 1 [] Z) ?_;exact ⟨_,rfl,⟨fun h=>absurd h (by decide),fun h=>by have:=h.k1;omega⟩,rfl⟩
 refine sq 62 Z k7 <| ae Z <| bt 0 Z Z Z <| am5 Z Z Z <| akv ?_;by_cases k8:4<e.kind
 ·refine dK 58 Z k8 <| ao Z <| akw <| ae Z <| akv <| ai <| al <| ag <| ar Z Z (af 1 [] Z) ?_;exact ⟨_,rfl,⟨fun h=>absurd h (by decide),fun h=>by have:=h.k2;omega⟩,rfl⟩
 refine rM 58 Z k8 <| aj Z <| akw <| ae Z <| bt 0 Z Z Z <| bg Z Z Z (Af) <| ae Z <| nq Z (sj Z Z (mq (mo (fe e.repo)).1 (mo (fe e.repo)).2 0 0)) Z <| ae Z ?_;by_cases k9:mo (fe e.repo)=(0,0);rotate_left
 ·refine bm 73 (.bool true) Z (by
   have:¬ ((mo (fe e.repo)).1=0∧(mo (fe e.repo)).2=0):=fun hc=>k9 (aqq hc.1 hc.2)
   rw [ans this];rfl) ?_
  (iterate 11 refine ae Z ?_)
  refine akv <| ao Z <| akw <| ae Z <| akv <| ai <| al <| ag <| ar Z Z (af 1 [] Z) ?_;exact ⟨_,rfl,⟨fun h=>absurd h (by decide),fun h=>absurd h.repo k9⟩,rfl⟩
 refine bm 73 (.bool false) Z (by
  rw [k9,ani ⟨rfl,rfl⟩];rfl) ?_
 refine du 0 Z Z Z Z Z Z (dj (by rw [el];rfl)) Z ?_;refine bg Z Z Z (E4) <| ae Z ?_;have htg:Bi e=decide (e.kind=3∨e.kind=4):=by unfold Bi;rw [apw];simp
 rw [htg];have done:(e.kind=3∨e.kind=4→po (fe e.tag)=(0,0))→Q4 n e:=fun h=>⟨by omega,by omega,by omega,by omega,k5,hall,k6,by omega,by omega,k9,h⟩
 by_cases k10:e.kind=3∨e.kind=4;rotate_left
 ·refine sq 76 Z k10 ?_
  (iterate 8 refine ae Z ?_)
  refine akv <| aj Z <| ak <| bh <| ab <| akw <| ae Z <| akv <| ai <| ar Z Z (af 1 [] Z) ?_;exact ⟨_,rfl,⟨fun _=>done fun h=>absurd h k10,fun _=>rfl⟩,rfl⟩
 refine se 76 Z k10 <| ae Z <| bt 0 Z Z Z <| bg Z Z Z (I7) <| ae Z <| nq Z (sj Z Z (mq (po (fe e.tag)).1 (po (fe e.tag)).2 0 0)) Z ?_;by_cases k11:po (fe e.tag)=(0,0)
 ·refine bm 81 (.bool false) Z (by rw [k11,ani ⟨rfl,rfl⟩];rfl) ?_;refine am5 Z Z Z <| akv <| aj Z <| ak <| bh <| ab <| akw <| ae Z <| akv <| ai <| ar Z Z (af 1 [] Z) ?_;exact ⟨_,rfl,⟨fun _=>done fun _=>k11,fun _=>rfl⟩,rfl⟩
 ·refine bm 81 (.bool true) Z (by
   have:¬ ((po (fe e.tag)).1=0∧(po (fe e.tag)).2=0):=fun hc=>k11 (aqq hc.1 hc.2)
   rw [ans this];rfl) ?_
  refine am5 Z Z Z <| akv <| ao Z <| akw <| ae Z <| akv <| ai <| al <| ag <| ar Z Z (af 1 [] Z) ?_;exact ⟨_,rfl,⟨fun h=>absurd h (by decide),fun h=>absurd (h.tag k10) k11⟩,rfl⟩
end

theorem akf {b:World} {F:List SP} {va vb:Value} {xs ys:List Int} (ha:∀ w,Sat b F w→VL (Value.int .i64) w va xs) (hb:∀ w,Sat b F w→VL (Value.int .i64) w vb ys):SC Tryz.prog lP [va,vb] b F (fun u F'=>u = .bool (lf xs ys)∧F'=F) :=
 SC.ofExt fun w H=>tB (ha w H) (hb w H)
def evM (l:List Ev):List ((Int × Int) × Value):=l.map fun e=>(dotE e,evV e)
theorem Vb {A:List Ev} {e:Ev} (h:∀ x∈A,dotE x≠dotE e):md (dotE e) (evM A)=none∧sy (dotE e) (evV e) (evM A)=evM (A ++ [e]):=by
 obtain ⟨h1,h2⟩:=uT (a:=dotE e) (l:=evM A) fun x hx=>by
  obtain ⟨y,hy,rfl⟩:=anb.1 hx;exact h y hy
 exact ⟨h1,by rw [h2];simp [evM]⟩
theorem Bj (d:Int × Int):∀ A:List Ev,(md d (evM A)=none∧∀ x∈A,dotE x≠d)∨∃ x∈A,dotE x=d∧md d (evM A)=some (evV x)
 | [] => .inl ⟨rfl, by simp⟩
 | e :: A => by
  by_cases h:dotE e=d
  ·exact .inr ⟨e,anl,h,by rw [evM,ant,md,if_pos h]⟩
  ·rcases Bj d A with ⟨h1,h2⟩ | ⟨x,h1,h2,h3⟩
   ·exact .inl ⟨by rw [evM,ant,md,if_neg h];exact h1,fun x hx=>by
     rcases anj.1 hx with rfl | hx
     ·exact h
     ·exact h2 x hx⟩
   ·exact .inr ⟨x,ank _ h1,h2,by rw [evM,ant,md,if_neg h];exact h3⟩
def vA (l:List Ev) (e:Ev) (i:Nat):Prop:=e.deps.getD i 0≠0→∃ f∈l,dotE f=((i:Int)+1,e.deps.getD i 0)∧lf f.deps e.deps=true
theorem J3 {l:List Int}:l.all okNum=true↔tf l:=by simp [an4,okNum,tf]
theorem ir.fitP {n:Nat} {l:List Ev} (h:ir n l) {e:Ev} (he:e∈l):Q4 n e:=by
 obtain ⟨a1,a2,a3,a4,a5,a6,a7⟩:=vi (h.fit e he);exact ⟨a1,a2,a3,a4,a5,J3.2 a6,a7,(h.kind e he).1,(h.kind e he).2,h.repo e he,h.tag e he⟩
theorem ir.depAt {n:Nat} {l:List Ev} (h:ir n l) {e:Ev} (he:e∈l) {i:Nat} (hi:i<e.deps.length):vA l e i:=fun h0=>by
 rw [jz hi] at *;exact h.dep e he i hi h0
theorem Q5 {n:Nat} {l:List Ev} (h1:1≤n) (h2:n≤16) (hf:∀ e∈l,Q4 n e) (hd:(l.map dotE).Nodup) (hp:∀ e∈l,∀ i<e.deps.length,vA l e i):ir n l where
 n1:=h1
 n2:=h2
 fit:=fun e he=>by
  have h:=hf e he;exact ani ⟨by omega,by omega,h.r1,h.r2,h.n1,h.n2,h.dl,J3.1 h.dn,h.own⟩
 kind:=fun e he=>⟨(hf e he).k1,(hf e he).k2⟩
 repo:=fun e he=>(hf e he).repo
 tag:=fun e he=>(hf e he).tag
 nd:=hd
 dep:=fun e he i hi h0=>by
  have:=hp e he i hi;unfold Proofs.YtbpdffopjkhelaaGreat.vA at this;rw [jz hi] at this;exact this h0
def Q6 (z:Int) (l:List Ev):Prop:=∃ n:Nat,z=n∧l.length≤4096∧ir n l
def evO:Ev:=⟨0,0,.slice none 0 0,[],0,⟨#[]⟩,⟨#[]⟩,List.replicate 32 0,.slice none 0 0,[]⟩
section
variable {b:World} {F:List SP} {l:List Ev} {z:Int}
theorem E6 {v:Value} (hz:I64 z) (hl:∀ w,Sat b F w→EL w v l) (hw:∀ e∈l,EW e) (hd:∀ e∈l,e.deps.length≤1000000) (hn:l.length≤100000):SC Tryz.prog vL [v,ii z] b F (fun u F'=>∃ r,u=ii r∧(r=0↔Q6 z l)∧F'=F):=by
 unfold I64 at hz;refine aw Tryz.func7 Z Z Z <| bu (fun w H=>cp (hl w H).sl) ?_;rintro ⟨A,c,rfl,_,_,_,h4,_⟩;refine bu (p:=∀ e∈l,∀ u∈evC e,u.oneCell'=true) (fun w H e he=>by
  have h1:=vg ((hl w H).er e he);exact kp h1.1 h1.2) fun hone=> ?_
 refine akw <| ae Z <| akv <| ad <| am <| akw <| am5 Z Z Z ?_;by_cases z1:z<1
 ·refine se 20 Z z1 <| am5 Z Z Z <| ae Z <| akv <| ao Z <| akw <| ae Z <| akv <| ai <| al <| ag <| ar Z Z ax ?_;exact ⟨_,rfl,⟨fun h=>absurd h (by decide),fun ⟨n,h1,_,h2⟩=>by have:=h2.n1;omega⟩,rfl⟩
 refine sq 20 Z z1 <| am5 Z Z Z <| ae Z <| akv ?_;by_cases z2:16<z
 ·refine dK 17 Z z2 <| ao Z <| akw <| ae Z <| akv <| ai <| al <| ag <| ar Z Z ax ?_;exact ⟨_,rfl,⟨fun h=>absurd h (by decide),fun ⟨n,h1,_,h2⟩=>by have:=h2.n2;omega⟩,rfl⟩
 refine rM 17 Z z2 <| aj Z <| akw <| am5 Z Z Z <| ae Z <| akv ?_;by_cases z3:l.length≤4096;rotate_left
 ·refine dL 24 Z <| ao Z <| akw <| ae Z <| akv <| ai <| al <| ag <| ar Z Z ax ?_;exact ⟨_,rfl,⟨fun h=>absurd h (by decide),fun ⟨n,_,h1,_⟩=>absurd h1 z3⟩,rfl⟩
 refine oe 24 Z <| aj Z <| ak <| bh <| ab <| akw ?_;obtain ⟨n,rfl⟩:∃ n:Nat,z=n:=⟨z.toNat,by omega⟩;have hgc:Q6 n l↔ir n l:=⟨fun ⟨m,h1,_,h2⟩=>by
  obtain rfl:n=m:=by omega
  exact h2,fun h=>⟨n,rfl,z3,h⟩⟩
 rw [hgc];refine yo y3 lm Z Z Z fun gm=>ae Z <| akv <| ad <| akw <| am5 Z Z Z <| akv <| am ?_
 refine dt (S:=Nat) (fun i=> [(0,.slice A l.length c),(1,ii n),(5,.map (some gm)),(29,.slice A l.length c),(30,ii l.length),(31,ii i)]) (fun i=>mp gm y3 lm (evM (l.take i))::F) (fun i=>i≤l.length∧(∀ e∈l.take i,Q4 n e)∧((l.take i).map dotE).Nodup) (fun i=>l.length - i) 0 ax ⟨anq _,by simp,by simp⟩ ?_;rintro i ⟨hi,i1,i2⟩;refine akw <| ae Z <| akv <| ad ?_;refine de Z (fun h3=> ?_) (fun h3=> ?_)
 ·have h3':i<l.length:=by omega
  obtain ⟨gg,oo,rfl⟩:=h4 (by omega);have hm:=ana h3';have hc:∀ w,Sat b F w→∀ j,j<39→w.cell? ⟨gg,oo+i*39+j,none⟩=(evC l[i])[j]?:=fun w H j hj=>fb (hl w H).sl (fun e he=>di (hw e he).l32) h3' hj
  have hsn:l.take (i+1)=l.take i ++ [l[i]]:=ang h3';have hne:dotE l[i]∈(l.take i).map dotE→¬ (l.map dotE).Nodup:=fun h1 h2=>by
   rw [← an9 (i+1) l,hsn,anu,anu,ap8,ap8] at h2;exact h2.1.2.2 _ h1 _ (by simp) Z
  have hxw:=hw _ hm;have hxd:=hd _ hm;have hxr:∀ w,Sat b F w→ER w l[i]:=fun w H=>(hl w H).er _ hm
  have x1:=hone _ hm;generalize l[i]=x at *;have xl:=di hxw.l32;refine ak <| ab <| ad <| am <| akw <| az Z ?_;refine fc Z (fun w H=>cg (cs:=evC x) Z Z Z xl (fun j hj=>by rw [bq,am6];exact hc w (H.ent (af 1 [] Z)) j (by rw [xl] at hj;exact hj))) Z ?_;refine db Z Z Z Z Z fun g7=> ?_;refine fh 0 Z Z Z Z Z Z Z xl x1 (by rw [xl];rfl) ?_;refine akv <| ad <| akw ?_;refine du 0 Z Z Z Z Z Z (dj (by rw [xl];rfl)) Z ?_;refine ae Z <| bf Z Z Z (Va (n:=n) hxw (by omega) hxd (fun w H=>hxr w (H.ent (af 2 [] Z)))) ?_;rintro _ _ ⟨r,rfl,hr,rfl⟩;refine ae Z <| aan <| am4 Z Z <| akv ?_;by_cases hr0:r=0;rotate_left
  ·refine ik 39 (.bool true) Z (by
    show Value.bool (!decide _)=_;rw [ans hr0];rfl) ?_
   refine ao Z <| akw <| am4 Z Z <| akv <| ai <| ag <| al <| ag <| cd <| al <| ag <| ar Z Z (af 2 [] Z) ?_;exact ⟨_,rfl,⟨fun h=>absurd h hr0,fun h=>absurd (hr.2 (h.fitP hm)) hr0⟩,rfl⟩
  refine ik 39 (.bool false) Z (by
   show Value.bool (!decide _)=_;rw [ani hr0];rfl) ?_
  have hxf:=hr.1 hr0;refine aj Z <| ak <| ab <| ad <| akw <| am4 Z Z <| bt 0 Z Z Z ?_;rcases Bj (dotE x) (l.take i) with ⟨g1,g2⟩ | ⟨y,g1,g2,g3⟩;rotate_left
  ·have hym:=aon g1;refine Ce 1 td hxw.dot g3 Z Z Z Z Z Z Z Z <| am5 Z Z Z <| db Z Z Z Z Z fun g8=> ?_;refine fh 0 Z Z Z Z Z Z Z (di (hw y hym).l32) (hone y hym) (by rw [di (hw y hym).l32];rfl) ?_;refine ae Z <| aan <| ae Z <| akv <| ao Z <| akw <| ae Z <| akv <| ai <| ag <| al <| ag <| cd <| al <| ag <| ar Z Z (af 3 [] Z) ?_;exact ⟨_,rfl,⟨fun h=>absurd h (by decide),fun h=>absurd h.nd (hne (anb.2 ⟨y,g1,g2⟩))⟩,rfl⟩
  ·refine lF 1 td hxw.dot g1 Z Z Z Z Z Z Z Z <| am5 Z Z Z <| db Z Z Z Z Z fun g8=>bm 46 (evV evO) Z Z <| fh 0 Z Z Z Z Z Z Z Z (kp Z Z) Z <| ae Z <| aan <| ae Z <| akv <| aj Z <| ak <| ab <| aa <| am4 Z Z <| bt 1 Z Z Z ?_
   refine du 1 Z Z Z Z Z Z (dj (by rw [xl];rfl)) Z ?_;refine Gb 2 td hxw.dot Z Z Z Z Z Z Z Z ?_;rw [(Vb g2).2,← hsn];refine ac <| bh <| ab <| aa <| az Z <| ae Z <| ac ?_;rw [show (i:Int)+1=((i+1:Nat):Int) by omega];refine cw (i+1) (af 3 [2] Z) ⟨by omega,fun e he=> ?_,?_⟩
   ·rw [hsn] at he;rcases anr.1 he with he | he
    ·exact i1 e he
    ·rw [anc.1 he];exact hxf
   ·rw [hsn,anu,ap8];refine ⟨i2,by simp,fun a ha c hc hac=> ?_⟩;obtain ⟨y,hy,rfl⟩:=anb.1 ha;simp only [ant,aqm,anc] at hc;exact g2 y hy (hac.trans hc)
 obtain rfl:i=l.length:=by omega
 rw [an7] at i1 i2 ⊢;refine bz <| au <| av <| ap <| ab <| ad <| akw <| am5 Z Z Z <| akv <| am ?_;refine dt (S:=Nat) (fun i=> [(5,.map (some gm)),(54,.slice A l.length c),(55,ii l.length),(56,ii i)]) (fun _=>mp gm y3 lm (evM l)::F) (fun i=>i≤l.length∧∀ e∈l.take i,∀ j<e.deps.length,vA l e j) (fun i=>l.length - i) 0 ax ⟨anq _,by simp⟩ ?_;rintro i ⟨hi,i3⟩;refine akw <| ae Z <| akv <| ad ?_;refine de Z (fun h3=> ?_) (fun h3=> ?_);rotate_left
 ·obtain rfl:i=l.length:=by omega
  rw [an7] at i3;refine bz <| au <| av <| ap <| ab <| akw <| ae Z <| akv <| ai <| ar Z Z (af 1 [] Z) ?_;exact ⟨_,rfl,⟨fun _=>Q5 (by omega) (by omega) i1 i2 i3,fun _=>rfl⟩,rfl⟩
 have h3':i<l.length:=by omega
 obtain ⟨gg,oo,rfl⟩:=h4 (by omega);have hm:=ana h3';have hc:∀ w,Sat b F w→∀ j,j<39→w.cell? ⟨gg,oo+i*39+j,none⟩=(evC l[i])[j]?:=fun w H j hj=>fb (hl w H).sl (fun e he=>di (hw e he).l32) h3' hj
 have hsn:l.take (i+1)=l.take i ++ [l[i]]:=ang h3';have hxw:=hw _ hm;have hxd:=hd _ hm;have hxr:∀ w,Sat b F w→ER w l[i]:=fun w H=>(hl w H).er _ hm
 have x1:=hone _ hm;generalize l[i]=x at *;have xl:=di hxw.l32;refine ak <| ab <| ad <| am <| akw <| az Z ?_;refine fc Z (fun w H=>cg (cs:=evC x) Z Z Z xl (fun j hj=>by rw [bq,am6];exact hc w (H.ent (af 1 [] Z)) j (by rw [xl] at hj;exact hj))) Z ?_;refine db Z Z Z Z Z fun g12=> ?_;refine fh 0 Z Z Z Z Z Z Z xl x1 (by rw [xl];rfl) ?_;refine aan <| ae Z <| bt 0 Z Z Z <| b9 (fun w H=>(hxr w (H.ent (af 2 [] Z))).dv.form) ?_;rintro ⟨A2,c2,hdv,_,_,_,q4⟩;refine bm 61 (.slice A2 x.deps.length c2) Z hdv <| am4 Z Z <| akv <| am ?_;refine dt (S:=Nat) (fun j=> [(5,.map (some gm)),(12,pp g12),(54,.slice (some ⟨gg,oo,none⟩) l.length c),(55,ii l.length),(56,ii i),(61,.slice A2 x.deps.length c2),(62,ii x.deps.length),(63,ii j)]) (fun _=>pt g12 ba (evC x)::mp gm y3 lm (evM l)::F) (fun j=>j≤x.deps.length∧∀ k<j,vA l x k) (fun j=>x.deps.length - j) 0 ax ⟨anq _,by omega⟩ ?_;rintro j ⟨hj,j1⟩;refine akw <| ae Z <| akv <| ad ?_;refine de Z (fun h5=> ?_) (fun h5=> ?_);rotate_left
 ·obtain rfl:j=x.deps.length:=by omega
  refine bz <| au <| av <| ap <| bh <| ab <| aa <| az Z <| ae Z <| ac ?_;rw [show (i:Int)+1=((i+1:Nat):Int) by omega];refine cw (i+1) (af 2 [1] Z) ⟨by omega,fun e he=> ?_⟩;rw [hsn] at he;rcases anr.1 he with he | he
  ·exact i3 e he
  ·rw [anc.1 he];exact j1
 have h5':j<x.deps.length:=by omega
 obtain ⟨g',o',rfl⟩:=q4 (by omega);have hcell:∀ w,Sat b F w→w.cell? ⟨g',o'+j,none⟩=some (ii (x.deps.getD j 0)):=fun w H=>by
  have h1:=(hxr w H).dv;rw [hdv] at h1;rw [jz h5'];exact VL.at h1 j h5'
 have hstep:vA l x j→∀ k<j+1,vA l x k:=fun h k hk=>by
  rcases ap3 k j with h6 | h6
  ·exact j1 k h6
  ·obtain rfl:k=j:=by omega
   exact h
 have hdI:I64 (x.deps.getD j 0):=by rw [jz h5'];exact hxw.dp _ (ana h5')
 obtain ⟨q,hq⟩:∃ q,q=x.deps.getD j 0:=⟨_,rfl⟩;have hbad:¬ vA l x j→∀ r:Int,r≠0→(r=0↔ir n l):=fun h1 r h2=>⟨fun h=>absurd h h2,fun h=>absurd (h.depAt hm h5') h1⟩
 unfold Proofs.YtbpdffopjkhelaaGreat.vA at hbad;rw [← hq] at hcell hdI hbad;refine ak <| ab <| ad <| am <| akw <| ae Z <| az Z ?_;refine fc Z (fun w H=>br (v:=ii q) Z Z Z (by rw [bq,aop];exact hcell w (H.ent (af 2 [] Z)))) Z ?_;refine am4 Z Z <| akv <| ad <| akw <| am4 Z Z <| akv ?_;by_cases hq0:q=0
 ·refine dK 69 Z hq0 <| ao Z <| bz <| au <| ap <| ab <| aa <| az Z <| ae Z <| ac ?_;rw [show (j:Int)+1=((j+1:Nat):Int) by omega];exact cw (j+1) (af 2 [0,1] Z) ⟨by omega,hstep fun h=>absurd (hq.symm.trans hq0) h⟩
 refine rM 69 Z hq0 <| aj Z <| ak <| ab <| akw <| am4 Z Z <| az Z <| am4 Z Z ?_;have hdk:lm ((j:Int)+1,q):=⟨(jA _).2 (by unfold I64;dsimp only;omega),(jA _).2 hdI⟩;rcases Bj ((j:Int)+1,q) l with ⟨g1,g2⟩ | ⟨y,g1,g2,g3⟩
 ·refine lF 1 td hdk g1 Z Z Z Z Z Z Z Z <| am5 Z Z Z <| db Z Z Z Z Z fun g15=>bm 77 (evV evO) Z Z <| fh 0 Z Z Z Z Z Z Z Z (kp Z Z) Z <| ae Z <| aan ?_
  (iterate 10 refine ae Z ?_)
  refine akv <| ao Z <| akw <| ae Z <| akv <| ai <| al <| ag <| cd <| al <| al <| ag <| cd <| al <| ag <| ar Z Z (af 3 [] Z) <| ⟨_,rfl,hbad (fun h=> ?_) _ (by decide),rfl⟩;obtain ⟨f,hf,h6,_⟩:=h hq0;exact g2 f hf h6
 ·have hyw:=hw y g1;have yl:=di hyw.l32;have hyr:∀ w,Sat b F w→ER w y:=fun w H=>(hl w H).er _ g1
  refine Ce 1 td hdk g3 Z Z Z Z Z Z Z Z <| am5 Z Z Z <| db Z Z Z Z Z fun g15=> ?_;refine fh 0 Z Z Z Z Z Z Z yl (hone y g1) (by rw [yl];rfl) ?_;refine ae Z <| aan <| am5 Z Z Z <| ae Z <| bt 0 Z Z Z <| ae Z <| bt 1 Z Z Z <| bg Z Z Z (akf (xs:=y.deps) (ys:=x.deps) (fun w H=>(hyr w (H.ent (af 3 [] Z))).dv) (fun w H=>(hxr w (H.ent (af 3 [] Z))).dv)) ?_;cases hle:lf y.deps x.deps with
  | false =>
   refine am4 Z Z <| akv <| ao Z <| akw <| ae Z <| akv <| ai <| al <| ag <| cd <| al <| al <| ag <| cd <| al <| ag <| ar Z Z (af 3 [] Z) <| ⟨_,rfl,hbad (fun h=> ?_) _ (by decide),rfl⟩;obtain ⟨f,hf,h6,h7⟩:=h hq0;have:f=y:=oX i2 hf g1 (h6.trans g2.symm);rw [this,hle] at h7;cases h7
  | true =>
   refine am4 Z Z <| akv <| aj Z <| ak <| bh <| ab <| aa <| az Z <| ae Z <| ac ?_;rw [show (j:Int)+1=((j+1:Nat):Int) by omega];exact cw (j+1) (af 3 [1,2] Z) ⟨by omega,hstep fun _=>⟨y,g1,by rw [g2,hq],hle⟩⟩
end
end Go.Proofs.YtbpdffopjkhelaaGreat
