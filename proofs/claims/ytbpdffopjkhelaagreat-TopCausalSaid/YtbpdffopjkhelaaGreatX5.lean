/- Queues, part one: dots as keys of maps; how what is held lies in memory. Conditions: none. -/
import Derived.Test.YtbpdffopjkhelaaGreatX4
import Derived.Test.YtbpdffopjkhelaaGreatX0
import Derived.Test.YtbpdffopjkhelaaGreatX3
import Derived.Test.YtbpdffopjkhelaaGreatX2
import Derived.Laws.RangeAny
set_option maxRecDepth 20000
set_option maxHeartbeats 8000000
namespace Go.Proofs.YtbpdffopjkhelaaGreat
open Go.Eng Go.RowKit Go.WideMaps

theorem S6 : Tryz.prog.underlying t_api_Dot = some (.struct ⟨[⟨ "R", fd, 0, false, "", "", 0⟩, ⟨ "N", fd, 1, false, "", "", 8⟩]⟩) := by kernel_rfl
theorem td:MK Tryz.prog t_api_Dot (fun p:Int × Int=>nh p.1 p.2) (fun p=>(Lit.int .i64 p.1).wf=true∧(Lit.int .i64 p.2).wf=true) where
 law:= .of (deep_law (m:=2) (by omega) (by kernel_rfl) (by kernel_rfl) (by rw [S6]))
 of:=fun p hp=>by
  have hkt:Tryz.prog.keyType t_api_Dot=true:=by kernel_rfl
  have hsz:Tryz.prog.cellsOf t_api_Dot=2:=by kernel_rfl
  have hci:Tryz.prog.cellsOf fd=1:=by kernel_rfl
  have hui:Tryz.prog.underlying fd=some (.int .i64):=by kernel_rfl
  obtain ⟨m,hm⟩:∃ m,Tryz.prog.types.size=m+1:=⟨_,(by kernel_rfl:Tryz.prog.types.size=(Tryz.prog.types.size - 1)+1)⟩;unfold keyOf;simp only [S6];rw [if_pos (by simp [hkt,Value.formed,S6,hsz,nh]),hm];unfold Program.keyLits;simp only [S6,Value.cells,nh];rw [if_pos (by simp [hsz])];simp [hci,Program.keyLits,hui,hp.1,hp.2]
 inj:=fun a c _ _ h=>by
  simp only [nh,Value.agg.injEq,Array.mk.injEq,apf,Value.int.injEq,true_and,aq7] at h;exact aqq h.1 h.2

structure Ev where
 r:Int
 n:Int
 dv:Value
 deps:List Int
 kind:Int
 repo:ByteArray
 tag:ByteArray
 id:List Int
 rv:Value
 refs:List (List Int)
structure Wn where
 g:Nat
 e:Ev
 src:Int
def evC (e:Ev):List Value:=ii e.r::ii e.n::e.dv::ii e.kind :: .string e.repo :: .string e.tag::(u8s e.id ++ [e.rv])
abbrev evV (e:Ev):Value:= .agg ⟨evC e⟩
def wsC (e:Ev) (src:Int):List Value:=evC e ++ [ii src]
abbrev waC (w:Wn):List Value:=wsC w.e w.src
abbrev bM (l:List Int):List Value:=l.map (Value.int .i64)
abbrev rZ (v:Value) (l:List Int):SP:=row fd 1 v l.length (bM l)
abbrev rD (v:Value) (l:List (List Int)):SP:=row t_api_ID 32 v l.length (ig l)
def wP (w:Wn):List SP:= [pt w.g gu (waC w),rZ w.e.dv w.e.deps,rD w.e.rv w.e.refs]
def wF:List Wn→List SP
 | [] => []
 | e :: l => wP e ++ wF l
abbrev qa (l:List Wn):List Value:=l.map fun w=>pp w.g
abbrev lm (p:Int × Int):Prop:=(Lit.int .i64 p.1).wf=true∧(Lit.int .i64 p.2).wf=true
abbrev y3 (p:Int × Int):Value:=nh p.1 p.2
def wM:List Wn→List ((Int × Int) × Value)
 | [] => []
 | w :: l => ((w.e.r, w.e.n), pp w.g) :: wM l
abbrev mpH (gm:Nat) (H:List Wn):SP:=mp gm y3 lm (wM H)
abbrev rP (h:Value) (R:List Wn):SP:=row fp 1 h R.length (qa R)
abbrev stH (gq gm:Nat) (v:Value) (V:List Int) (h:Value) (R H:List Wn) (F:List SP):List SP :=
 pt gq ml [v,h,.map (some gm)]::rZ v V::rP h R::mpH gm H::all (wF H)::F
section
variable {b:World} {F:List SP} {gq gm:Nat} {v h:Value} {V:List Int} {R H:List Wn}
theorem tI:SC Tryz.prog xe [pp gq] b (stH gq gm v V h R H F) (fun x F'=>x = .bool false∧F'=stH gq gm v V h R H F):=by
 refine aw Tryz.func76 Z Z Z <| akw <| ae Z <| aan ?_
 (iterate 6 refine ae Z ?_)
 refine bt 0 Z Z Z <| am5 Z Z Z <| akv <| ai <| ar Z Z ax ?_;exact ⟨rfl,rfl⟩
theorem aje {n:Nat} (h1:1≤n) (h2:n≤16):SC Tryz.prog sH [ii n] b F (fun x F'=>∃ gq gm v,x = .tuple ⟨[pp gq,ii 0]⟩∧F'=stH gq gm v (List.replicate n 0) (.slice none 0 0) [] [] F):=by
 refine aw Tryz.func9 Z Z Z <| akw <| am4 Z Z <| akv <| ad <| akw <| am5 Z Z Z ?_;refine np 6 Z (fun h=>by omega) (fun _=> ?_);refine am5 Z Z Z <| akv ?_;refine de Z (fun h=>by omega) (fun _=> ?_);refine ak <| ab <| akw <| ae Z ?_;refine zE (sz:=1) (n:=n) (cs:=bM (List.replicate n 0)) Z Z Z Z Z Z Z Z Z (by omega) (by rw [bM,List.map_replicate];exact rY _ _) fun g=> ?_;refine eo (G:=rZ (.slice (some ⟨g,0,none⟩) n n) (List.replicate n 0)::F) (by simp only [rZ,apr];exact Ent.refl _) ?_
 skip
 refine yo y3 lm Z Z Z fun gm=>ae Z <| bx Z Z Z Z Z fun gq=>am4 Z Z <| akv <| ai <| fz Z Z Z (((eg (G:= [])).trans (df fp 1 Z)).trans (af 5 [2,4,0,3,1] Z)) ?_
 exact ⟨gq,gm,_,rfl,rfl⟩
end

theorem vlZ {b:World} {F:List SP} {v:Value} {l:List Int} {k:Nat} (hk:nth F k=some (rZ v l)):∀ w,Sat b F w→VL (Value.int .i64) w v l:=fun w H=>by
 have:=(H.oat hk).sl;exact this
section
variable {b:World} {F:List SP} {va:Value}
theorem cX {xs:List Int} (ha:∀ w,Sat b F w→VL (Value.int .i64) w va xs) (hn:xs.length≤1000000):SC Tryz.prog zj [va] b F (fun v F'=>F'=rZ v xs::F):=by
 refine aw Tryz.func77 Z Z Z <| bu (fun w H=>(ha w H).form) ?_;rintro ⟨A,c,rfl,h1,h2,h3,h4⟩;cases A with
 | none =>
  have hc:=h3 Z;have hx:xs = []:=aol.1 (by omega);subst hx;refine akw <| ae Z <| akv <| ad <| akw <| am4 Z Z <| akv <| ao Z <| akw <| ae Z <| akv <| ai <| ag <| ar Z Z (df fd 1 Z) ?_
  rfl
 | some a =>
  refine akw <| ae Z <| akv <| ad <| akw <| am4 Z Z <| akv <| aj Z <| ak <| ab <| akw <| ql [] Z Z Z Z Z Z Z Z Z fun g0=>eo (kt (n:=0) (sz:=1) Z Z (by decide) 0 Z Z) <| ae Z <| ef 0 Z Z Z Z Z Z Z Z Z (up ha (af 1 [] Z)) Nv (by omega) (fun _=>rfl) fun v6=>ae Z <| akv <| ai <| ar Z Z ax ?_
  show row fd 1 v6 _ _::F=rZ v6 xs::F;simp [rZ,bM]
theorem Gy {x:Int}:SC Tryz.prog qg [ii x] b F (fun v F'=>v = .bool (decide (x<0∨1048576<x))∧F'=F):=by
 refine aw Tryz.func257 Z Z Z <| akw <| ae Z <| aan <| am5 Z Z Z ?_;refine np 5 Z (fun h=> ?_) (fun h=> ?_)
 ·refine am5 Z Z Z <| ae Z <| akv <| ai <| ar Z Z ax ?_;exact ⟨am7 Value.bool (by simp [h]),rfl⟩
 ·refine am5 Z Z Z <| ae Z <| akv <| ai <| ar Z Z ax ?_;exact ⟨am7 Value.bool (by simp [h]),rfl⟩
def tf (V:List Int):Prop:=∀ x∈V,0≤x∧x≤1048576
instance (V:List Int):Decidable (tf V):=by unfold tf;infer_instance
theorem Df {xs:List Int} (ha:∀ w,Sat b F w→VL (Value.int .i64) w va xs) (hn:xs.length≤1000000):SC Tryz.prog nv [va,.func (.func qg) ⟨[]⟩ ⟨[]⟩] b F (fun v F'=>(∃ i:Int,v=ii i∧(0≤i↔¬ tf xs))∧F'=F):=by
 refine aw Tryz.func185 Z Z Z <| bu (fun w H=>(ha w H).form) ?_;rintro ⟨A,c,rfl,h1,h2,h3,h4⟩;refine akw <| ae Z <| akv <| ad <| akw <| am5 Z Z Z <| akv <| am <| dt (S:=Nat) (fun i=> [(0,.slice A xs.length c),(1,.func (.func qg) ⟨[]⟩ ⟨[]⟩),(7,ii xs.length),(8,ii i)]) (fun _=>F) (fun i=>i≤xs.length∧∀ k (hk:k<xs.length),k<i→0≤xs[k]∧xs[k]≤1048576) (fun i=>xs.length - i) 0 ax ⟨anq _,fun k _ h=>absurd h (aqi k)⟩ ?_;rintro i ⟨hi,hk⟩;refine akw <| ae Z <| akv <| ad ?_;refine de Z (fun h=> ?_) (fun h=> ?_)
 ·have h':i<xs.length:=by omega
  obtain ⟨bk,off,rfl⟩:=h4 (by omega);refine ak <| ab <| ad <| am <| akw <| am4 Z Z <| aan <| am5 Z Z Z <| az Z ?_;refine fc Z (fun w H=>br Z Z Z (by rw [bq];simpa using VL.at (ha w H) i h')) Z ?_;refine bg Z Z Z (Gy) ?_;by_cases hx:xs[i]<0∨1048576<xs[i]
  ·refine se 16 Z hx <| akv <| ao Z <| akw <| am4 Z Z <| akv <| ai <| al <| ag <| cd <| al <| ag <| ar Z Z ax ?_;refine ⟨⟨i,rfl,fun _ hok=> ?_,fun _=>by omega⟩,rfl⟩;have:=hok _ (ana h');omega
  ·refine sq 16 Z hx <| akv <| aj Z <| ak <| bh <| ab <| aa <| az Z <| ae Z <| ac <| cw (i+1) ax ⟨h',fun k hkk hlt=> ?_⟩;by_cases e:k=i
   ·subst e;omega
   ·exact hk k hkk (by omega)
 ·refine bz <| au <| av <| ap <| ab <| akw <| ae Z <| akv <| ai <| ar Z Z ax ?_;refine ⟨⟨-1,rfl,fun hc=>by omega,fun hc=>(hc fun x hx=> ?_).elim⟩,rfl⟩;obtain ⟨k,hkk,rfl⟩:=ao0.1 hx;exact hk k hkk (by omega)
theorem tJ {xs:List Int} (ha:∀ w,Sat b F w→VL (Value.int .i64) w va xs) (hn:xs.length≤1000000):SC Tryz.prog mf [va,.func (.func qg) ⟨[]⟩ ⟨[]⟩] b F (fun v F'=>v = .bool (!decide (tf xs))∧F'=F):=by
 refine aw Tryz.func99 Z Z Z <| akw <| ae Z <| aan <| am4 Z Z <| bf Z Z Z (Df ha hn) ?_;rintro _ _ ⟨⟨i,rfl,hi⟩,rfl⟩;refine am4 Z Z <| akv <| ai <| ar Z Z ax <| ⟨am7 Value.bool ?_,rfl⟩;by_cases h:tf xs
 ·simp [h] at hi ⊢;omega
 ·simp [h] at hi ⊢;omega
theorem Lc {xs:List Int} {n:Nat} (ha:∀ w,Sat b F w→VL (Value.int .i64) w va xs) (hn:xs.length≤1000000):SC Tryz.prog sS [va,ii n] b F (fun v F'=>v = .bool (decide (xs.length=n)&&decide (tf xs))∧F'=F):=by
 refine aw Tryz.func200 Z Z Z <| bu (fun w H=>(ha w H).form) ?_;rintro ⟨A,c,rfl,h1,h2,h3,h4⟩;refine akw <| ae Z <| aan ?_
 (iterate 5 refine ae Z ?_)
 by_cases h:xs.length=n
 ·refine bm 9 (.bool true) Z (by simp [h]) ?_;refine ae Z <| bg Z Z Z (tJ ha hn) <| am5 Z Z Z <| akv <| ai <| ar Z Z ax ?_;exact ⟨am7 Value.bool (by simp [h]),rfl⟩
 ·refine bm 9 (.bool false) Z (by simp;omega) ?_
  (iterate 5 refine ae Z ?_)
  refine akv <| ai <| ar Z Z ax ?_;exact ⟨am7 Value.bool (by simp [h]),rfl⟩
end

theorem di {e:Ev} (h:e.id.length=32):(evC e).length=39:=by simp [evC,h]
theorem ls {e:Ev} {s:Int} (h:e.id.length=32):(wsC e s).length=40:=by simp [wsC,di h]
theorem aF {e:Ev} (h:e.id.length=32):nth (evC e) 38=some e.rv:=by
 rw [lw];simp only [evC,aqz];rw [apu (by simp [h]),dr,h];rfl
theorem Gz {e:Ev} {s:Int} (h:e.id.length=32):nth (wsC e s) 38=some e.rv:=by
 rw [lw,wsC,aot (by rw [di h];omega),← lw];exact aF h
theorem G1 {α:Type} (a:List α) (x y:α) (m:List α):(a++x::m).set a.length y=a++y::m:=by
 induction a with
 | nil => rfl
 | cons c a ih => simp only [aoe, anp, aq5, ih]
theorem Oe {e:Ev} {s:Int} {v:Value} (h:e.id.length=32):stO (wsC e s) 38 v=some (wsC {e with rv:=v} s):=by
 refine zT (by rw [ls h];omega) ?_;simp only [wsC,evC,aoe,anh,aos,aq5];have:=G1 (u8s e.id) e.rv v [ii s];rw [dr,h] at this;rw [this]
theorem Ld {e:Ev} {s s':Int} (h:e.id.length=32):stO (wsC e s) 39 (ii s')=some (wsC e s'):=by
 refine zT (by rw [ls h];omega) ?_;have:=G1 (evC e) (Value.int .i64 s) (ii s') [];rw [di h] at this;exact this
theorem kp {e:Ev} (h1:e.dv.oneCell'=true) (h2:e.rv.oneCell'=true):∀ u∈evC e,u.oneCell'=true:=by
 intro u hu;simp only [evC,anj,anr,apb,or_false] at hu;rcases hu with rfl | rfl | rfl | rfl | rfl | rfl | hu | rfl <;> first | rfl | assumption | exact ib _ u hu
theorem mH {e:Ev} {s:Int} (h1:e.dv.oneCell'=true) (h2:e.rv.oneCell'=true):∀ u∈wsC e s,u.oneCell'=true:=by
 intro u hu;rcases anr.1 hu with hu | hu
 ·exact kp h1 h2 u hu
 ·rw [anc.1 hu];rfl
theorem cp {w:World} {sz n:Nat} {v:Value} {cs:List Value} (h:SL w sz v n cs):∃ A c,v = .slice A n c∧n≤c∧c≤9223372036854775807∧(A=none→c=0)∧(0<n→∃ bk off,A=some ⟨bk,off,none⟩)∧cs.length=n*sz:=by
 obtain ⟨A,c,h1,h2,h3,h4,h5,h6⟩:=h;exact ⟨A,c,h1,h3,h4,h5,fun hp=>by obtain ⟨bk,off,hA,_⟩:=h6 hp;exact ⟨bk,off,hA⟩,h2⟩
theorem Of (l:List (List Int)):∀ u∈ig l,u.oneCell'=true:=by
 induction l with
 | nil => intro u hu; simp [ig] at hu
 | cons a l ih =>
  intro u hu;rcases anr.1 hu with hu | hu
  ·exact ib _ u hu
  ·exact ih u hu
section
variable {b:World} {F:List SP} {va:Value}
theorem gX {l:List (List Int)} (ha:∀ w,Sat b F w→SL w 32 va l.length (ig l)) (hn:l.length≤1000000):SC Tryz.prog t6 [va] b F (fun v F'=>F'=rD v l::F):=by
 refine aw Tryz.func40 Z Z Z <| bu (fun w H=>cp (ha w H)) ?_;rintro ⟨A,c,rfl,h1,h2,h3,h4,_⟩;cases A with
 | none =>
  have hc:=h3 Z;have hx:l = []:=aol.1 (by omega);subst hx;refine akw <| ae Z <| akv <| ad <| akw <| am4 Z Z <| akv <| ao Z <| akw <| ae Z <| akv <| ai <| ag <| ar Z Z (df t_api_ID 32 Z) ?_
  rfl
 | some a =>
  refine akw <| ae Z <| akv <| ad <| akw <| am4 Z Z <| akv <| aj Z <| ak <| ab <| akw <| zC Z Z Z Z Z fun g0=>eo (kt (n:=0) (sz:=32) Z Z (by decide) 0 Z Z) <| ae Z <| ef 0 Z Z Z Z Z Z Z Z Z (up ha (af 1 [] Z)) (Of l) (by omega) (fun _=>rfl) fun v6=>ae Z <| akv <| ai <| ar Z Z ax ?_
  show row t_api_ID 32 v6 _ _::F=rD v6 l::F;simp [rD]
theorem Og {H:List Wn}:∀ u∈qa H,u.oneCell'=true:=by
 intro u hu;obtain ⟨x,_,rfl⟩:=anb.1 hu;rfl
theorem G2 {H:List Wn} (ha:∀ w,Sat b F w→SL w 1 va H.length (qa H)) (hn:H.length≤1000000):SC Tryz.prog oj [va] b F (fun v F'=>F'=row fp 1 v H.length (qa H)::F):=by
 refine aw Tryz.func204 Z Z Z <| bu (fun w H=>cp (ha w H)) ?_;rintro ⟨A,c,rfl,h1,h2,h3,h4,_⟩;cases A with
 | none =>
  have hc:=h3 Z;have hx:H = []:=aol.1 (by omega);subst hx;refine akw <| ae Z <| akv <| ad <| akw <| am4 Z Z <| akv <| ao Z <| akw <| ae Z <| akv <| ai <| ag <| ar Z Z (df fp 1 Z) ?_
  rfl
 | some a =>
  refine akw <| ae Z <| akv <| ad <| akw <| am4 Z Z <| akv <| aj Z <| ak <| ab <| akw <| ql [] Z Z Z Z Z Z Z Z Z fun g0=>eo (kt (n:=0) (sz:=1) Z Z (by decide) 0 Z Z) <| ae Z <| ef 0 Z Z Z Z Z Z Z Z Z (up ha (af 1 [] Z)) Og (by omega) (fun _=>rfl) fun v6=>ae Z <| akv <| ai <| ar Z Z ax ?_
  show row fp 1 v6 _ _::F=row fp 1 v6 _ _::F;simp
end

def Ev.own (e:Ev) (dv rv:Value):Ev:= {e with dv:=dv,rv:=rv}
section
variable {b:World} {F:List SP}
theorem Wr {e:Ev} {s:Int} (h32:e.id.length=32) (ha:∀ w,Sat b F w→VL (Value.int .i64) w e.dv e.deps) (hr:∀ w,Sat b F w→SL w 32 e.rv e.refs.length (ig e.refs)) (hd:e.deps.length≤1000000) (hl:e.refs.length≤1000000) :
  SC Tryz.prog Gh [.agg ⟨wsC e s⟩] b F (fun v F'=>∃ dv rv,v = .agg ⟨wsC (e.own dv rv) s⟩∧F'=rZ dv e.deps::rD rv e.refs::F):=by
 refine aw Tryz.func108 Z Z Z <| akw <| bx Z Z Z Z Z fun g1=> ?_
 skip
 refine db Z Z Z Z Z fun g2=>akv <| ad <| jc flo 10 (pt g1 gu (wsC e s)::F) [] Z (by decide +kernel) (af 2 [1] Z) <| ay Z Zl <| ay Z Zl <| cl 0 Z Z Z Z <| d9 Z Z Z Z (cX (up ha (af 2 [] Z)) hd) ?_
 rintro dv _ rfl;refine ⟨af 3 [2] rfl,(ay Z Zl <| ay Z Zl <| rQ 0 Z Z Z Z Z Z (Gz h32) Z Z <| d9 Z Z Z Z (gX (up hr (af 3 [] Z)) hl) ?_)⟩;rintro rv _ rfl;refine ⟨af 4 [3] rfl,(ay Z Zl <| ay Z Zl <| aq <| jd Z (dc _) <| ix (fun w H=>(H.oat (k:=1) Z).form) ?_)⟩;rintro ⟨A1,c1,rfl,_,_,_⟩;refine ix (fun w H=>(H.oat (k:=0) Z).form) ?_;rintro ⟨A2,c2,rfl,_,_,_⟩
 skip
 refine aM 3 Z Z Z Z Z Z Z Z Z (show stO (wsC e s) 2 _=some (wsC {e with dv:= .slice A1 e.deps.length c1} s) from Z) Z (dc _) <| ay Z Zl <| ay Z Zl <| aM 3 Z Z Z Z Z Z Z Z Z (show stO _ 38 _=some (wsC (e.own (.slice A1 e.deps.length c1) (.slice A2 e.refs.length c2)) s) from Oe (e:= {e with dv:= .slice A1 e.deps.length c1}) h32) Z (dc _) ?_;have h33:(e.own (.slice A1 e.deps.length c1) (.slice A2 e.refs.length c2)).id.length=32:=h32;have hone:=mH (e:=e.own (.slice A1 e.deps.length c1) (.slice A2 e.refs.length c2)) (s:=s) Z Z;refine ix (p:=∃ e2,e2=e.own (.slice A1 e.deps.length c1) (.slice A2 e.refs.length c2)) (fun _ _=>⟨_,rfl⟩) ?_;rintro ⟨e2,he2⟩;rw [← he2] at h33 hone ⊢
 skip
 refine aq <| ab <| akw ?_;refine du 3 Z Z Z Z Z Z (dj (by rw [ls h33];rfl)) Z ?_;refine fh 2 Z Z Z Z Z Z Z (ls h33) hone (by rw [ls h33];rfl) ?_;refine akv <| ai ?_;refine fw Z (.whole 2 Z Z Z Z (by rw [ls h33];rfl) .nil) (af 4 [1,0] Z) ?_;exact ⟨_,_,by rw [he2];rfl,rfl⟩
end
end Go.Proofs.YtbpdffopjkhelaaGreat
namespace Go.Heap

class HOrd (α:Type) where
 lt:α→α→Bool
 d:α
class HLaw (α:Type) [HOrd α]:Prop where
 asym:∀ x y:α,HOrd.lt x y=true→¬ HOrd.lt y x=true
 trans:∀ x y z:α,¬ HOrd.lt y x=true→¬ HOrd.lt z y=true→¬ HOrd.lt z x=true
def gj {α:Type} [HOrd α] (l:List α) (i j:Nat):List α:=(l.set i (l.getD j HOrd.d)).set j (l.getD i HOrd.d)
def upG {α:Type} [HOrd α]:Nat→List α→Nat→List α
 | 0, l, _ => l
 | k + 1, l, j => if j = 0 then l else if HOrd.lt (l.getD j HOrd.d) (l.getD ((j - 1) / 2) HOrd.d) = true then upG k (gj l ((j - 1) / 2) j) ((j - 1) / 2) else l
theorem fg {α:Type} [HOrd α] (l:List α) (i j:Nat):(gj l i j).length=l.length:=by simp [gj]
theorem Oh {α:Type} [HOrd α] (k:Nat):∀ (l:List α) (p:Nat),p<k→upG k l p=upG (p+1) l p:=by
 induction k using Nat.strongRecOn with
 | ind k ih =>
  intro l p hp;cases k with
  | zero => omega
  | succ k =>
   simp only [upG]
   split
   ·rfl
   ·split
    ·exact (ih k (by omega) _ _ (by omega)).trans (ih p (by omega) _ _ (by omega)).symm
    ·rfl
def cY {α:Type} [HOrd α] (n:Nat) (l:List α) (i:Nat):Nat:=if 2*i+2<n∧HOrd.lt (l.getD (2*i+2) HOrd.d) (l.getD (2*i+1) HOrd.d)=true then 2*i+2 else 2*i+1
theorem gY {α:Type} [HOrd α] {n:Nat} {l:List α} {i:Nat} (h:¬ n≤2*i+1):cY n l i<n∧i<cY n l i:=by unfold cY;split <;> omega
def dnG {α:Type} [HOrd α]:Nat→Nat→List α→Nat→List α
 | 0, _, l, _ => l
 | k + 1, n, l, i => if n ≤ 2 * i + 1 then l else if HOrd.lt (l.getD (cY n l i) HOrd.d) (l.getD i HOrd.d) = true then dnG k n (gj l i (cY n l i)) (cY n l i) else l
theorem tK {α:Type} [HOrd α] (k:Nat):∀ (n:Nat) (l:List α) (i:Nat),n - i≤k→dnG k n l i=dnG (n - i) n l i:=by
 induction k using Nat.strongRecOn with
 | ind k ih =>
  intro n l i hk;cases k with
  | zero => rw [show n - i = 0 by omega]
  | succ k =>
   rcases aoo (n - i) with h0 | h0
   ·rw [h0];simp only [dnG];rw [if_pos (by omega)]
   ·obtain ⟨m,hm⟩:∃ m,n - i=m+1:=⟨n - i - 1,by omega⟩;rw [hm];simp only [dnG]
    split
    ·rfl
    ·rename_i h1
     have:=gY (l:=l) h1
     split
     ·exact (ih k (by omega) _ _ _ (by omega)).trans (ih m (by omega) _ _ _ (by omega)).symm
     ·rfl
theorem zW {α:Type} [HOrd α] (k:Nat):∀ (l:List α) (j:Nat),(upG k l j).length=l.length:=by
 induction k with
 | zero => intro l j; rfl
 | succ k ih => intro l j; simp only [upG]; split; rfl; split; rw [ih, fg]; rfl
theorem cZ {α:Type} [HOrd α] (k:Nat):∀ (n:Nat) (l:List α) (j:Nat),(dnG k n l j).length=l.length:=by
 induction k with
 | zero => intro n l j; rfl
 | succ k ih => intro n l j; simp only [dnG]; split; rfl; split; rw [ih, fg]; rfl
def ub {α:Type} [HOrd α] (l:List α):List α:=dnG (l.length - 1) (l.length - 1) (gj l 0 (l.length - 1)) 0
theorem tL {α:Type} [HOrd α] (l:List α):(ub l).length=l.length:=by rw [ub,cZ,fg]
def leG {α:Type} [HOrd α] (x y:α):Prop:=¬ HOrd.lt y x=true
theorem tM {α:Type} [HOrd α] [HLaw α] {x y:α} (h:HOrd.lt x y=true):leG x y:=HLaw.asym _ _ h
theorem qi {α:Type} [HOrd α] [HLaw α] {x y z:α} (h1:leG x y) (h2:leG y z):leG x z:=HLaw.trans _ _ _ h1 h2
abbrev atG {α:Type} [HOrd α] (l:List α) (i:Nat):α:=l.getD i HOrd.d
theorem y4 {α:Type} [HOrd α] (l:List α) {i j:Nat} (hi:i<l.length) (hj:j<l.length) (k:Nat):atG (gj l i j) k=if k=j then atG l i else if k=i then atG l j else atG l k:=by
 simp only [atG,gj,ano,aq8,app]
 repeat' split
 all_goals first | rfl | omega | simp_all
theorem y5 {α:Type} [HOrd α] {l:List α} {i j:Nat} (hi:i<l.length) (hj:j<l.length):(gj l i j).Perm l:=by
 have:=List.set_set_perm hi hj;simp only [gj,ano,am8 hi,am8 hj,aq1];exact this
def hpG {α:Type} [HOrd α] (n:Nat) (l:List α):Prop:=∀ i,0<i→i<n→leG (atG l ((i - 1) / 2)) (atG l i)
def amt {α:Type} [HOrd α] (l:List α) (j:Nat):Prop:=(∀ i,0<i→i<l.length→i≠j→leG (atG l ((i - 1) / 2)) (atG l i))∧∀ c,0<c→c<l.length→(c - 1) / 2=j→0<j→leG (atG l ((j - 1) / 2)) (atG l c)
theorem Oi {α:Type} [HOrd α] [HLaw α] (k:Nat):∀ (l:List α) (j:Nat),j<k→j<l.length→amt l j→hpG l.length (upG k l j):=by
 induction k with
 | zero => intro l j h; omega
 | succ k ih =>
  intro l j hk hj ⟨h1,h2⟩;simp only [upG]
  split
  ·rename_i h0;intro i a b;exact h1 i a b (by omega)
  ·rename_i h0
   have hp:(j - 1) / 2<j:=by omega
   split
   ·rename_i hlt
    have sw:=y4 l (i:=(j - 1) / 2) (j:=j) (by omega) hj;have hle:=tM hlt;have:=ih (gj l ((j - 1) / 2) j) ((j - 1) / 2) (by omega) (by rw [fg];omega) ⟨fun i a b c=> ?_,fun c a b d e=> ?_⟩
    ·rwa [fg] at this
    ·rw [fg] at b;rw [sw,sw];by_cases e1:i=j
     ·subst e1;rw [if_neg (by omega),if_pos rfl,if_pos rfl];exact hle
     ·rw [if_neg e1,if_neg c];by_cases e2:(i - 1) / 2=j
      ·rw [if_pos e2];exact h2 i a b e2 (by omega)
      ·rw [if_neg e2];by_cases e3:(i - 1) / 2=(j - 1) / 2
       ·rw [if_pos e3];exact qi hle (e3▸h1 i a b e1)
       ·rw [if_neg e3];exact h1 i a b e1
    ·rw [fg] at b;rw [sw,sw,if_neg (by omega),if_neg (by omega)];have hpp:=h1 ((j - 1) / 2) (by omega) (by omega) (by omega);by_cases e1:c=j
     ·rw [if_pos e1];exact hpp
     ·rw [if_neg e1,if_neg (by omega)];exact qi hpp (d▸h1 c a b e1)
   ·rename_i hlt
    intro i a b;by_cases e1:i=j
    ·subst e1;exact hlt
    ·exact h1 i a b e1
theorem Dg {α:Type} [HOrd α] (k:Nat):∀ (l:List α) (j:Nat),j<l.length→(upG k l j).Perm l:=by
 induction k with
 | zero => intro l j _; exact .refl _
 | succ k ih =>
  intro l j hj;simp only [upG]
  split
  ·exact .refl _
  ·split
   ·exact (ih _ _ (by rw [fg];omega)).trans (y5 (by omega) hj)
   ·exact .refl _
def amu {α:Type} [HOrd α] (n:Nat) (l:List α) (i:Nat):Prop:=(∀ k,0<k→k<n→(k - 1) / 2≠i→leG (atG l ((k - 1) / 2)) (atG l k))∧∀ k,0<k→k<n→(k - 1) / 2=i→0<i→leG (atG l ((i - 1) / 2)) (atG l k)
theorem S7 {α:Type} [HOrd α] [HLaw α] {n:Nat} {l:List α} {i:Nat} (k:Nat) (h0:0<k) (hk:k<n) (h:(k - 1) / 2=i):leG (atG l (cY n l i)) (atG l k):=by
 have hself:leG (atG l k) (atG l k):=fun h=>HLaw.asym _ _ h h
 have hk':k=2*i+1∨k=2*i+2:=by omega
 unfold cY
 split
 ·rename_i h1
  rcases hk' with rfl | rfl
  ·exact tM h1.2
  ·exact hself
 ·rename_i h1
  rcases hk' with rfl | rfl
  ·exact hself
  ·exact fun h2=>h1 ⟨hk,h2⟩
theorem Oj {α:Type} [HOrd α] [HLaw α] (f:Nat):∀ (n:Nat) (l:List α) (i:Nat),n - i≤f→n≤l.length→amu n l i→hpG n (dnG f n l i):=by
 induction f with
 | zero => intro n l i hf hn ⟨h1, _⟩ k a b; exact h1 k a b (by omega)
 | succ f ih =>
  intro n l i hf hn ⟨h1,h2⟩;simp only [dnG]
  split
  ·rename_i h0;intro k a b;exact h1 k a b (by omega)
  ·rename_i h0
   have hJ:=gY (l:=l) h0;have hJp:(cY n l i - 1) / 2=i:=by unfold cY;split <;> omega
   have hch:=fun k a b e=>S7 (n:=n) (l:=l) (i:=i) k a b e
   generalize cY n l i=j at *
   split
   ·rename_i hlt
    have sw:=y4 l (i:=i) (j:=j) (by omega) (by omega);have hle:=tM hlt;refine ih n (gj l i j) j (by omega) (by rw [fg];exact hn) ⟨fun k a b c=> ?_,fun k a b d e=> ?_⟩
    ·rw [sw,sw];by_cases e1:k=j
     ·subst e1;rw [if_neg (by omega),if_pos hJp,if_pos rfl];exact hle
     ·rw [if_neg e1,if_neg c];by_cases e2:k=i
      ·subst e2;rw [if_neg (by omega),if_pos rfl];exact h2 j (by omega) hJ.1 hJp a
      ·rw [if_neg e2];by_cases e3:(k - 1) / 2=i
       ·rw [if_pos e3];exact hch k a b e3
       ·rw [if_neg e3];exact h1 k a b e3
    ·rw [sw,sw,if_neg (by omega),if_pos hJp,if_neg (by omega),if_neg (by omega)];exact d▸h1 k a b (by omega)
   ·rename_i hlt
    intro k a b;by_cases e3:(k - 1) / 2=i
    ·rw [e3];exact qi hlt (hch k a b e3)
    ·exact h1 k a b e3
theorem tN {α:Type} [HOrd α] (f:Nat):∀ (n:Nat) (l:List α) (i:Nat),i<l.length→n≤l.length→(dnG f n l i).Perm l:=by
 induction f with
 | zero => intro n l i _ _; exact .refl _
 | succ f ih =>
  intro n l i hi hn;simp only [dnG]
  split
  ·exact .refl _
  ·rename_i h0
   have hJ:=gY (l:=l) h0
   split
   ·exact (ih _ _ _ (by rw [fg];omega) (by rw [fg];exact hn)).trans (y5 hi (by omega))
   ·exact .refl _
theorem Ok {α:Type} [HOrd α] (f:Nat):∀ (n:Nat) (l:List α) (i m:Nat),n≤m→i<n→n≤l.length→atG (dnG f n l i) m=atG l m:=by
 induction f with
 | zero => intro n l i m _ _ _; rfl
 | succ f ih =>
  intro n l i m hm hi hn;simp only [dnG]
  split
  ·rfl
  ·rename_i h0
   have hJ:=gY (l:=l) h0
   split
   ·rw [ih _ _ _ _ hm hJ.1 (by rw [fg];exact hn),y4 l (by omega) (by omega),if_neg (by omega),if_neg (by omega)]
   ·rfl
theorem Ol {α:Type} [HOrd α] [HLaw α] {n:Nat} {l:List α} (h:hpG n l) (k:Nat):k<n→leG (atG l 0) (atG l k):=by
 induction k using Nat.strongRecOn with
 | ind k ih =>
  intro hk;rcases aoo k with rfl | h0
  ·exact fun h=>HLaw.asym _ _ h h
  ·exact qi (ih _ (by omega) (by omega)) (h k h0 hk)
theorem Om {α:Type} [HOrd α] [HLaw α] {l:List α} {x:α} (h:hpG l.length l):hpG (l.length+1) (upG (l.length+1) (l ++ [x]) l.length):=by
 have:=Oi (l.length+1) (l ++ [x]) l.length (by omega) (by simp) ⟨fun i a b c=> ?_,fun c a b d e=> ?_⟩
 ·simpa using this
 ·simp only [am9,anp,ao1] at b;have:=h i a (by omega);simp only [atG,ano] at this ⊢;rwa [aot (by omega),aot (by omega)]
 ·simp only [am9,anp,ao1] at b;omega
theorem S8 {α:Type} [HOrd α] [HLaw α] {l:List α} {n:Nat} (hn:l.length=n+1) (h:hpG (n+1) l) :
  hpG n ((ub l).take n)∧((ub l).getD n HOrd.d::(ub l).take n).Perm l∧∀ x∈(ub l).take n,leG ((ub l).getD n HOrd.d) x:=by
 have hp:ub l=dnG n n (gj l 0 n) 0:=by rw [ub,hn];rfl
 have sw:=y4 l (i:=0) (j:=n) (by omega) (by omega);have hlen:=tL l;have hat:(ub l).getD n HOrd.d=atG l 0:=by
  rcases aoo n with rfl | h0
  ·rw [hp];show atG (gj l 0 0) 0=_;rw [sw];simp
  ·rw [hp];show atG (dnG n n (gj l 0 n) 0) n=_;rw [Ok n n _ 0 n (aoc _) h0 (by rw [fg];omega),sw,if_pos rfl]
 have hperm:(ub l).Perm l:=by rw [hp];exact (tN _ _ _ _ (by rw [fg];omega) (by rw [fg];omega)).trans (y5 (by omega) (by omega))
 have ep:ub l=(ub l).take n ++ [(ub l).getD n HOrd.d]:=by
  have h:=(an9 n (ub l)).symm;have h2:(ub l).drop n = [(ub l).getD n HOrd.d]:=by
   rw [ano,am8 (by omega),aq1,an8 (by omega),aog (by omega)]
  rwa [h2] at h
 have hperm2:((ub l).getD n HOrd.d::(ub l).take n).Perm l:=by
  refine List.Perm.trans ?_ hperm
  conv=>rhs;rw [ep]
  exact (List.perm_append_singleton _ _).symm
 refine ⟨?_,hperm2,fun x hx=> ?_⟩
 ·have:=Oj n n (gj l 0 n) 0 (by omega) (by rw [fg];omega) ⟨fun k a b c=> ?_,fun k a b d e=>by omega⟩
  ·rw [← hp] at this;intro i a b;have:=this i a b;simp only [atG,ano] at this ⊢;rwa [aoq,if_pos (by omega),aoq,if_pos (by omega)]
  ·rw [sw,sw,if_neg (by omega),if_neg (by omega),if_neg (by omega),if_neg (by omega)];exact h k a (by omega)
 ·rw [hat];have hm:=hperm.subset (aon hx);obtain ⟨k,hk,rfl⟩:=ao0.1 hm;have:=Ol h k (by omega);simp only [atG,ano,am8 hk,aq1] at this;simp only [atG,ano];exact this
end Go.Heap
namespace Go.Proofs.YtbpdffopjkhelaaGreat
open Go.Eng Go.RowKit Go.WideMaps Go.Heap

abbrev ltE (a c:Ev):Bool:=fN a.r a.n a.deps c.r c.n c.deps
instance:HOrd Wn:=⟨fun a c=>ltE a.e c.e,⟨0,⟨0,0,.slice none 0 0,[],0,⟨#[]⟩,⟨#[]⟩,[],.slice none 0 0,[]⟩,0⟩⟩
theorem Dh (a c:Wn):HOrd.lt a c=ltE a.e c.e:=rfl
instance:HLaw Wn where
 asym:=fun x y h1 h2=>by
  rw [Dh,ltE,fN,aoy] at h1 h2;omega
 trans:=fun x y z h1 h2 h3=>by
  rw [Dh,ltE,fN,aoy] at h1 h2 h3;omega
theorem On (a c:List Wn):wF (a++c)=wF a++wF c:=by
 induction a with
 | nil => rfl
 | cons e a ih => simp only [aoe, wF, ih, anh]
theorem tO {l1 l2:List Wn} {e:Wn}:(wF (l1++e::l2)).Perm (wP e++wF (l1++l2)):=by
 rw [On,wF,On,← anh,← anh];exact ao9.append_right _
section
variable {b:World} {F:List SP} {k:Nat} {H:List Wn} {e:Wn}
theorem G3 (hk:nth F k=some (all (wF H))) (he:e∈H):∀ w,Sat b F w→∃ G,Sat b (wP e++G) w:=fun w hS=>by
 obtain ⟨l1,l2,rfl⟩:=ao3 he;obtain ⟨h1,l,hA⟩:=hS.mem.get hk;exact ⟨wF (l1++l2),hS.os,hS.tape,hS.output,(je tO _ hA).mono l⟩
theorem tP (hk:nth F k=some (all (wF H))) (he:e∈H):∀ w,Sat b F w→Blk w e.g gu (waC e):=fun w hS=>by
 obtain ⟨G,h⟩:=G3 hk he w hS;exact h.blk (k:=0) Z
theorem Di (hk:nth F k=some (all (wF H))) (he:e∈H):∀ w,Sat b F w→VL (Value.int .i64) w e.e.dv e.e.deps:=fun w hS=>by
 obtain ⟨G,h⟩:=G3 hk he w hS;exact vlZ (k:=1) Z w h
theorem Ws (hk:nth F k=some (all (wF H))) (he:e∈H):∀ w,Sat b F w→SL w 32 e.e.rv e.e.refs.length (ig e.e.refs):=fun w hS=>by
 obtain ⟨G,h⟩:=G3 hk he w hS;exact (h.oat (k:=2) Z).sl
end
section
variable {b:World} {F:List SP}
theorem Oo {e f:Ev} (he:∀ w,Sat b F w→VL (Value.int .i64) w e.dv e.deps) (hf:∀ w,Sat b F w→VL (Value.int .i64) w f.dv f.deps) :
  SC Tryz.prog lW [evV e,evV f] b F (fun v F'=>v = .bool (ltE e f)∧F'=F):=by
 refine aw Tryz.func243 Z Z Z <| akw <| bx Z Z Z Z Z fun g2=> ?_
 skip
 refine bx Z Z Z Z Z fun g3=>ae Z <| aan <| ae Z <| bt 1 Z Z Z <| ae Z <| bt 1 Z Z Z <| ae Z <| bt 0 Z Z Z <| ae Z <| bt 0 Z Z Z <| bg Z Z Z (SC.ofExt fun w H=>xN (up he (af 2 [] Z) w H) (up hf (af 2 [] Z) w H)) <| ae Z <| akv <| ai <| ar Z Z (af 2 [] Z) ?_
 exact ⟨rfl,rfl⟩
variable {A:Option Addr} {c n:Nat} {R H:List Wn}
theorem zX:SC Tryz.prog n_hold_waiting_Len [.slice A n c] b F (fun v F'=>v=ii n∧F'=F):=by
 refine aw Tryz.func205 Z Z Z <| akw <| ae Z <| aan <| am5 Z Z Z <| akv <| ai <| ar Z Z ax ?_;exact ⟨rfl,rfl⟩
abbrev rW (A:Option Addr) (c n:Nat) (R:List Wn):SP:=row fp 1 (.slice A n c) n (qa R)
theorem Oq {k:Nat} {e:Wn} (hk:nth F k=some (all (wF H))) (he:e∈H):∀ w,Sat b F w→∀ j,j<(evC e.e).length→w.cell? ⟨e.g,j,none⟩=(evC e.e)[j]?:=fun w hS j hj=>by
 rw [(tP hk he w hS).cell j];exact aot hj
theorem mI {i j:Nat} (hn:R.length=n) (hs:∀ e∈R,e∈H) (h32:∀ e∈H,e.e.id.length=32) (hi:i<n) (hj:j<n) :
  SC Tryz.prog n_hold_waiting_Less [.slice A n c,ii i,ii j] b (rW A c n R::all (wF H)::F) (fun v F'=>v = .bool (HOrd.lt (R.getD i HOrd.d) (R.getD j HOrd.d))∧F'=rW A c n R::all (wF H)::F):=by
 have hi':i<R.length:=by omega
 have hj':j<R.length:=by omega
 have ei:R.getD i HOrd.d=R[i]:=by rw [ano,am8 hi'];rfl
 have ej:R.getD j HOrd.d=R[j]:=by rw [ano,am8 hj'];rfl
 have mi:=hs _ (ana hi');have mj:=hs _ (ana hj');have ci:(qa R)[i]? = some (pp (R[i].g)):=by simp [qa,hi']
 have cj:(qa R)[j]? = some (pp (R[j].g)):=by simp [qa,hj']
 rw [ei,ej];generalize R[i]=x at *;generalize R[j]=y at *;refine aw Tryz.func351 Z Z Z <| bu (fun w H=>(H.oat (k:=0) Z).form) ?_;rintro ⟨A',c',hv,k1,k2,k3⟩;cases hv;obtain ⟨gg,oo,rfl⟩:=k3 (by omega);have hl1:=h32 x mi;have hl2:=h32 y mj;refine akw <| ae Z <| akv <| ad <| cn flo (rW (some ⟨gg,oo,none⟩) c n R::all (wF H)::F) (by decide +kernel) ax <| ay Z Zl <| ay Z Zl <| cq Z Z ?_;refine ij Z (fun w H=>br Z Z Z (by rw [bq,am6,aop];exact aP (k:=0) Z ci w H)) Z Z ?_;refine ay Z Zl <| ay Z Zl ?_;refine ij Z (fun w H=>cg (cs:=evC x.e) Z Z Z (di hl1) (fun q hq=>by rw [aob];exact Oq (k:=1) Z mi w H q hq)) Z Z ?_;refine ay Z Zl <| ay Z Zl <| cq Z Z ?_;refine ij Z (fun w H=>br Z Z Z (by rw [bq,am6,aop];exact aP (k:=0) Z cj w H)) Z Z ?_;refine ay Z Zl <| ay Z Zl ?_;refine ij Z (fun w H=>cg (cs:=evC y.e) Z Z Z (di hl2) (fun q hq=>by rw [aob];exact Oq (k:=1) Z mj w H q hq)) Z Z ?_
 skip
 refine dh Z Z Z Z (Oo (Di (k:=1) Z mi) (Di (k:=1) Z mj)) ax <| ay Z Zl <| aq <| ab <| ai <| ar Z Z ax ?_;exact ⟨rfl,rfl⟩
end

theorem Dj {R:List Wn} {i:Nat} {x:Wn} (h:i<R.length):spl (qa R) i [pp x.g]=qa (R.set i x):=by
 simp only [spl,qa,List.map_set,anp,ao1,aoe,aos,aob];rw [List.set_eq_take_append_cons_drop,if_pos (by simpa using h)]
section
variable {b:World} {F:List SP} {A:Option Addr} {c n:Nat} {R H:List Wn}
theorem gZ {i j:Nat} (hn:R.length=n) (hi:i<n) (hj:j<n) :
  SC Tryz.prog n_hold_waiting_Swap [.slice A n c,ii i,ii j] b (rW A c n R::F) (fun _ F'=>F'=rW A c n (gj R i j)::F):=by
 have hi':i<R.length:=by omega
 have hj':j<R.length:=by omega
 have ei:R.getD i HOrd.d=R[i]:=by rw [ano,am8 hi'];rfl
 have ej:R.getD j HOrd.d=R[j]:=by rw [ano,am8 hj'];rfl
 have ci:(qa R)[i]? = some (pp (R[i].g)):=by simp [qa,hi']
 have cj:(qa R)[j]? = some (pp (R[j].g)):=by simp [qa,hj']
 rw [gj,ei,ej];generalize R[i]=x at *;generalize R[j]=y at *;have s1:=Dj (x:=y) hi';have s2:=Dj (R:=R.set i y) (x:=x) (i:=j) (by simpa using hj');refine aw Tryz.func352 Z Z Z <| bu (fun w H=>(H.oat (k:=0) Z).form) ?_;rintro ⟨A',c',hv,k1,k2,k3⟩;cases hv;obtain ⟨gg,oo,rfl⟩:=k3 (by omega);refine w9 flo 16 _ (by kernel_rfl) Z ax ?_;refine pg (13,[0,1,4,5,6,7,8,9,10,11,12]) [] (by kernel_rfl) ⟨jm 0 2 (L2:=List.range' 4 9) Z Z ?_,trivial⟩;refine ay Z Zl <| ay Z Zl <| aq (s0 ax (jm 4 9 (L2:= []) Z Z (ay Z Zl <| ay Z Zl <| cq Z Z ?_)));refine ij Z (fun w H=>br Z Z Z (by rw [bq,am6,aop];exact aP (k:=0) Z cj w H)) Z Z ?_;refine ay Z Zl <| ay Z Zl <| cq Z Z ?_;refine ij Z (fun w H=>br Z Z Z (by rw [bq,am6,aop];exact aP (k:=0) Z ci w H)) Z Z ?_;refine cq Z Z <| aq <| s0 ax <| jf [] Z (dc _) ?_;refine me 0 i Z Z Z Z Z Z Z Z Z s1 Z (by rw [bq,am6,aop]) (by simp;omega) (fun u hu=>by simp at hu;subst hu;rfl) (dc _) ?_;refine aq (io (dc _) (pg (15,[2,3,14]) [] (by kernel_rfl) ⟨jm 2 2 (L2:= [14]) Z Z ?_,trivial⟩));refine ay Z Zl <| ay Z Zl <| aq <| s0 (dc _) <| xa 14 1 Z Z Z <| cq Z Z ?_;refine me 0 j Z Z Z Z Z Z Z Z Z s2 Z (by rw [bq,am6,aop]) (by simp;omega) (fun u hu=>by simp at hu;subst hu;rfl) (dc _) ?_;refine aq (io (dc _) (yq 0 0 (by kernel_rfl) (by kernel_rfl) Z (aq ?_)));refine jb Z .nil (af 0 [] Z) ?_;exact Z
end

structure HC (cs:Value→List Value) (off:Nat):Prop where
 rd:∀ v,nth (cs v) off=some v
 wr:∀ u v,stO (cs u) off v=some (cs v)
section
variable {b:World} {F:List SP} {A:Option Addr} {c n gh t0 off:Nat} {R:List Wn} {cs:Value→List Value} {x:Wn}
theorem S9 (hc:HC cs off) (hR:R.length=n) (hn:n≤1000000) :
  SC Tryz.prog n_p_hold_waiting_Push [.pointer (some ⟨gh,off,none⟩),.iface fp (pp x.g)] b (pt gh t0 (cs (.slice A n c))::rW A c n R::F)
   (fun _ F'=>∃ A' c',F'=pt gh t0 (cs (.slice A' (n+1) c'))::rW A' c' (n+1) (R ++ [x])::F):=by
 refine aw Tryz.func357 Z Z Z <| jc flo 9 (pt gh t0 (cs (.slice A n c))::F) [] Z (by decide +kernel) (af 2 [0] Z) <| ay Z Zl <| ay Z Zl <| ay Z Zl <| rQ 0 Z Z Z Z Z Z (hc.rd _) Z Z <| ay Z Zl <| aar Z Z Z Z Z Z Z <| yZ [pp x.g] Z Z Z Z Z Z Z Z Z Z (af 2 [0] Z) fun gl=> ?_;refine nU 2 Z Z Z Z Z Z Z Z Z Z (m:=1) (news:= [pp x.g]) (fun w H=>(H.blk (k:=0) Z).sl Z (by decide)) (fun u hu=>by simp at hu;subst hu;rfl) (by omega) (fun _=>rfl) (fun _=>af 3 [1] Z) fun v8=> ?_;have e:qa R ++ [pp x.g]=qa (R ++ [x]):=by simp [qa]
 rw [e];refine ix (fun w H=>(H.oat (k:=2) Z).form) ?_;rintro ⟨A7,c7,rfl,_,_,_⟩;refine ay Z Zl <| aq <| jd Z (dc _) ?_
 skip
 refine aM 1 Z Z Z Z Z Z Z Z Z (hc.wr _ _) Z (dc _) <| aq <| jb Z .nil (af 3 [1,2] Z) ?_;exact ⟨A7,c7,rfl⟩
theorem Ot (hc:HC cs off) (hR:R.length=n) (hn:n≤1000000) :
  SC Tryz.prog n_p_hold_waiting_Pop [.pointer (some ⟨gh,off,none⟩)] b (pt gh t0 (cs (.slice A (n+1) c))::rW A c (n+1) (R ++ [x])::F)
   (fun v F'=>v = .iface fp (pp x.g)∧F'=pt gh t0 (cs (.slice A n c))::rW A c n R::F):=by
 have hN:(((n+1:Nat):Int) - 1)=(n:Int):=by omega
 have cx:(qa (R ++ [x]))[n]? = some (pp x.g):=by simp [qa,← hR]
 refine aw Tryz.func356 Z Z Z <| bu (fun w H=>(H.oat (k:=1) Z).form) ?_;rintro ⟨A',c',hv,k1,k2,k3⟩;cases hv;obtain ⟨gg,oo,rfl⟩:=k3 (by omega);refine akw <| ae Z <| aan <| am4 Z Z <| yk 0 Z Z Z Z Z Z (hc.rd _) Z <| ae Z <| az Z <| ae Z <| aan <| am4 Z Z ?_;refine bm 3 (ii n) Z (by first | rfl | (rw [hN];rfl) | (simp [hN];done)) ?_
 skip
 refine yk 0 Z Z Z Z Z Z (hc.rd _) Z <| ae Z <| az Z ?_;refine fc Z (fun w H=>br Z Z Z (by rw [bq,am6,aop];exact aP (k:=1) Z cx w H)) Z ?_;refine ae Z <| aan <| am5 Z Z Z <| yk 0 Z Z Z Z Z Z (hc.rd _) Z <| ae Z <| az Z <| ae Z ?_;refine bm 21 (.slice (some ⟨gg,oo,none⟩) n c) Z (by first | rfl | (simp;done)) ?_
 skip
 refine wX 0 Z Z Z Z Z Z Z Z (hc.wr _ _) Z <| aan <| am5 Z Z Z <| akv <| ai <| ar Z Z ((lB (j:=n) (by omega) 1 Z Z).trans (af 2 [0,1] Z)) ?_;have e:(qa (R ++ [x])).take (n*1)=qa R:=by rw [aop,qa,anu,apm (by simp [hR]),an1 (by simp [hR])]
 exact ⟨rfl,by rw [e]⟩
end

instance : MethP Tryz.prog fy "Push" n_p_hold_waiting_Push := ⟨by kernel_rfl, inferInstance⟩
instance : MethP Tryz.prog fy "Pop" n_p_hold_waiting_Pop := ⟨by kernel_rfl, inferInstance⟩
instance : MethV Tryz.prog fy "Len" n_hold_waiting_Len := ⟨by kernel_rfl, inferInstance⟩
instance : MethV Tryz.prog fy "Less" n_hold_waiting_Less := ⟨by kernel_rfl, inferInstance⟩
instance : MethV Tryz.prog fy "Swap" n_hold_waiting_Swap := ⟨by kernel_rfl, inferInstance⟩
theorem bN {m H:List Wn} (h:∀ e∈m,e∈H) {i j:Nat} (hi:i<m.length) (hj:j<m.length):∀ e∈gj m i j,e∈H:=fun e he=>h e ((y5 hi hj).subset he)
section
variable {b:World} {F:List SP} {A:Option Addr} {c n gh t0 off:Nat} {l H:List Wn} {cs:Value→List Value}
theorem Wt {j:Nat} (hc:HC cs off) (h32:∀ e∈H,e.e.id.length=32) (hl:∀ e∈l,e∈H) (hn:l.length=n) (hj:j<n) (hm:n≤1000000) :
  SC Tryz.prog iV [.iface fy (.pointer (some ⟨gh,off,none⟩)),ii j] b (pt gh t0 (cs (.slice A n c))::rW A c n l::all (wF H)::F)
   (fun _ F'=>F'=pt gh t0 (cs (.slice A n c))::rW A c n (upG (j+1) l j)::all (wF H)::F):=by
 refine aw Tryz.func208 Z Z Z <| am ?_;refine dt (S:=List Wn × Nat) (fun s=> [(0,.iface fy (.pointer (some ⟨gh,off,none⟩))),(1,ii s.2)]) (fun s=>pt gh t0 (cs (.slice A n c))::rW A c n s.1::all (wF H)::F)
  (fun s=>(∀ e∈s.1,e∈H)∧s.1.length=n∧s.2<n∧upG (s.2+1) s.1 s.2=upG (j+1) l j) (fun s=>s.2) (l,j) ax ⟨hl,hn,hj,rfl⟩ ?_
 rintro ⟨m,i⟩ ⟨i1,i2,i3,i4⟩;dsimp only at i1 i2 i3 i4 ⊢;refine am <| akw <| ae Z <| az Z <| az Z <| ae Z <| akv <| ad <| akw <| am5 Z Z Z <| ae Z <| bm 4 (ii (((i - 1) / 2:Nat):Int)) Z (am7 (Value.int .i64) (Gx (by omega))) ?_;by_cases h0:i=0
 ·refine bm 11 (.bool true) Z (by rw [Gx (by omega)];simp [h0]) ?_
  (iterate 6 refine ae Z ?_)
  refine akv <| ao Z <| bz <| au <| lh Z <| av <| ap ?_;subst h0;have e:m=upG (j+1) l j:=by rw [← i4];simp [upG]
  refine jb Z .nil (af 0 [] Z) ?_;rw [e]
 ·refine bm 11 (.bool false) Z (by rw [Gx (by omega)];simp;omega) ?_;refine am5 Z Z Z ?_;have hp:(i - 1) / 2<m.length:=by omega
  subst i2;have hless:=mI (b:=b) (F:=pt gh t0 (cs (.slice A m.length c))::F) (A:=A) (c:=c) (n:=m.length) (R:=m) (H:=H) (i:=i) (j:=(i - 1) / 2) Z i1 h32 (by omega) hp;refine vu 0 Z Z Z Z Z Z (hc.rd _) Z (hless.at (af 3 [1,2,0] Z) (af 3 [2,0,1] Z)) ?_;by_cases h1:HOrd.lt (m.getD i HOrd.d) (m.getD ((i - 1) / 2) HOrd.d)=true
  ·refine bm 15 (.bool true) Z (am7 Value.bool h1) <| am4 Z Z <| akv <| aj Z <| ak <| ab <| akw <| am5 Z Z Z ?_;have hswap:=gZ (b:=b) (F:=all (wF H)::pt gh t0 (cs (.slice A m.length c))::F) (A:=A) (c:=c) (n:=m.length) (R:=m) (i:=(i - 1) / 2) (j:=i) Z hp i3;refine cJ 0 Z Z Z Z Z Z (hc.rd _) Z (hswap.ent (af 3 [1,2,0] Z)) ?_;rintro _ _ rfl;refine akv <| aa <| am4 Z Z <| ac <| bh <| cw (gj m ((i - 1) / 2) i,(i - 1) / 2) (af 3 [2,0,1] Z) ⟨bN i1 hp i3,fg _ _ _,hp,?_⟩;rw [← i4];simp only [upG,if_neg h0,if_pos h1];exact (Oh i _ _ (by omega)).symm
  ·refine bm 15 (.bool false) Z (am7 Value.bool (by simpa using h1)) ?_;refine am4 Z Z <| akv <| ao Z <| bz <| au <| lh Z <| av <| ap ?_;have e:m=upG (j+1) l j:=by rw [← i4];simp only [upG,if_neg h0,if_neg h1]
   refine jb Z .nil (af 0 [] Z) ?_;rw [← e]
end

def mvG (n:Nat) (l:List Wn) (i:Nat):Bool:= !decide (n≤2*i+1)&&HOrd.lt (l.getD (cY n l i) HOrd.d) (l.getD i HOrd.d)
section
variable {b:World} {F:List SP} {A:Option Addr} {c n gh t0 off:Nat} {l H:List Wn} {cs:Value→List Value}
theorem Wu {n0 i0:Nat} (hc:HC cs off) (h32:∀ e∈H,e.e.id.length=32) (hl:∀ e∈l,e∈H) (hn:l.length=n) (h0:n0≤n) (hi0:i0≤n) (hm:n≤1000000) :
  SC Tryz.prog dX [.iface fy (.pointer (some ⟨gh,off,none⟩)),ii i0,ii n0] b (pt gh t0 (cs (.slice A n c))::rW A c n l::all (wF H)::F)
   (fun v F'=>v = .bool (mvG n0 l i0)∧F'=pt gh t0 (cs (.slice A n c))::rW A c n (dnG (n0 - i0) n0 l i0)::all (wF H)::F):=by
 refine aw Tryz.func207 Z Z Z <| akw <| ae Z <| aan <| am4 Z Z <| akv <| ad <| am ?_;refine dt (S:=List Wn × Nat) (fun s=> [(0,.iface fy (.pointer (some ⟨gh,off,none⟩))),(1,ii i0),(2,ii n0),(7,ii s.2)]) (fun s=>pt gh t0 (cs (.slice A n c))::rW A c n s.1::all (wF H)::F)
  (fun s=>(∀ e∈s.1,e∈H)∧s.1.length=n∧(s.2=i0∨s.2<n0)∧dnG (n0 - s.2) n0 s.1 s.2=dnG (n0 - i0) n0 l i0∧((s.2=i0∧s.1=l)∨(i0<s.2∧mvG n0 l i0=true))) (fun s=>n0 - s.2) (l,i0) ax ⟨hl,hn,.inl rfl,rfl,.inl ⟨rfl,rfl⟩⟩ ?_
 rintro ⟨m,i⟩ ⟨i1,i2,i3,i4,i5⟩;dsimp only at i1 i2 i3 i4 i5 ⊢;refine am <| akw <| ae Z <| az Z <| az Z <| ae Z <| akv <| ad <| akw <| am5 Z Z Z <| ae Z ?_;by_cases c1:n0≤2*i+1
 ·refine bm 18 (.bool true) Z (by simp;omega) ?_;refine am5 Z Z Z <| akv <| ao Z <| bz <| au <| lh Z <| av <| ap <| ab <| akw <| am5 Z Z Z <| ae Z <| akv <| ai ?_;have e:m=dnG (n0 - i0) n0 l i0:=by
   rw [← i4];cases hk:n0 - i with
   | zero => rfl
   | succ k => simp only [dnG]; rw [if_pos c1]
  refine ar Z Z (af 0 [] Z) ?_;refine ⟨am7 Value.bool ?_,by rw [e]⟩;rcases i5 with ⟨rfl,rfl⟩ | ⟨h1,h2⟩
  ·simp [mvG,c1]
  ·rw [h2];simpa using h1
 ·refine bm 18 (.bool false) Z (by simp;omega) ?_;refine am5 Z Z Z <| akv <| aj Z <| ak <| ab <| akw <| am4 Z Z <| akv <| ad <| akw <| ae Z <| az Z <| ae Z <| aan <| am5 Z Z Z <| ae Z ?_;refine bm 21 (.bool false) Z (by simp;omega) ?_
  skip
  obtain ⟨k,hk⟩:∃ k,n0 - i=k+1:=⟨n0 - i - 1,by omega⟩;have hJ:=gY (l:=m) c1;obtain ⟨j,hj⟩:∃ j,j=cY n0 m i:=⟨_,rfl⟩;rw [← hj] at hJ;by_cases c2:2*i+2<n0
  ·refine bm 28 (.bool true) Z (by simp;omega) ?_;refine am5 Z Z Z ?_;subst i2;have hless:=mI (b:=b) (F:=pt gh t0 (cs (.slice A m.length c))::F) (A:=A) (c:=c) (n:=m.length) (R:=m) (H:=H) (i:=2*i+2) (j:=2*i+1) Z i1 h32 (by omega) (by omega);refine bm 30 (ii (2*i+2:Nat)) Z (by first | rfl | (congr 1;omega)) ?_;refine bm 31 (ii (2*i+1:Nat)) Z (by first | rfl | (congr 1;omega)) ?_;refine vu 0 Z Z Z Z Z Z (hc.rd _) Z (hless.at (af 3 [1,2,0] Z) (af 3 [2,0,1] Z)) ?_;by_cases c3:HOrd.lt (m.getD (2*i+2) HOrd.d) (m.getD (2*i+1) HOrd.d)=true
   ·refine bm 32 (.bool true) Z (am7 Value.bool c3) ?_;have e:j=2*i+2:=by rw [hj,cY,if_pos ⟨c2,c3⟩]
    refine ae Z <| akv <| ao Z <| aa <| am4 Z Z <| akv <| ad <| akw <| am5 Z Z Z ?_;refine bm 36 (ii j) Z (by congr 1;omega) ?_;refine bm 9 (ii j) Z (by congr 1;omega) ?_;have hless2:=mI (b:=b) (F:=pt gh t0 (cs (.slice A m.length c))::F) (A:=A) (c:=c) (n:=m.length) (R:=m) (H:=H) (i:=j) (j:=i) Z i1 h32 (by omega) (by omega);refine vu 0 Z Z Z Z Z Z (hc.rd _) Z (hless2.at (af 3 [1,2,0] Z) (af 3 [2,0,1] Z)) ?_;by_cases c4:HOrd.lt (m.getD j HOrd.d) (m.getD i HOrd.d)=true
    ·refine bm 38 (.bool true) Z (am7 Value.bool c4) <| ae Z <| akv <| aj Z <| ak <| ab <| akw <| am5 Z Z Z ?_;have hswap:=gZ (b:=b) (F:=all (wF H)::pt gh t0 (cs (.slice A m.length c))::F) (A:=A) (c:=c) (n:=m.length) (R:=m) (i:=i) (j:=j) Z (by omega) (by omega);refine cJ 0 Z Z Z Z Z Z (hc.rd _) Z (hswap.ent (af 3 [1,2,0] Z)) ?_;rintro _ _ rfl;refine akv <| aa <| am4 Z Z <| ac <| bh ?_;refine cw (gj m i j,j) (af 3 [2,0,1] Z) ⟨bN i1 (by omega) (by omega),fg _ _ _,.inr hJ.1,?_,.inr ⟨by dsimp only;rcases i5 with ⟨h,_⟩ | ⟨h,_⟩ <;> omega,?_⟩⟩
     ·rw [← i4,hk];simp only [dnG,← hj,if_neg c1,if_pos c4];exact (tK k _ _ _ (by omega)).symm
     ·rcases i5 with ⟨rfl,rfl⟩ | ⟨h1,h2⟩
      ·rw [hj] at c4;rw [mvG,c4,Bool.and_true];simp;omega
      ·exact h2
    ·refine bm 38 (.bool false) Z (am7 Value.bool (by simpa using c4)) ?_;refine ae Z <| akv <| ao Z <| bz <| au <| lh Z <| av <| ap <| ab <| akw <| am5 Z Z Z <| ae Z <| akv <| ai ?_;have e9:m=dnG (n0 - i0) n0 l i0:=by rw [← i4,hk];simp only [dnG,← hj,if_neg c1,if_neg c4]
     refine ar Z Z (af 0 [] Z) ?_;refine ⟨am7 Value.bool ?_,by rw [← e9]⟩;rcases i5 with ⟨rfl,rfl⟩ | ⟨h1,h2⟩
     ·rw [hj] at c4;rw [mvG,Bool.eq_false_iff.2 c4,Bool.and_false];simp
     ·rw [h2];simpa using h1
   ·refine bm 32 (.bool false) Z (am7 Value.bool (by simpa using c3)) ?_;have e:j=2*i+1:=by rw [hj,cY,if_neg (fun h=>c3 h.2)]
    refine ae Z <| akv <| aj Z <| ak <| ab <| ad <| akw <| am5 Z Z Z ?_;refine bm 36 (ii j) Z (by congr 1;omega) ?_;refine bm 9 (ii j) Z (by congr 1;omega) ?_;have hless2:=mI (b:=b) (F:=pt gh t0 (cs (.slice A m.length c))::F) (A:=A) (c:=c) (n:=m.length) (R:=m) (H:=H) (i:=j) (j:=i) Z i1 h32 (by omega) (by omega);refine vu 0 Z Z Z Z Z Z (hc.rd _) Z (hless2.at (af 3 [1,2,0] Z) (af 3 [2,0,1] Z)) ?_;by_cases c4:HOrd.lt (m.getD j HOrd.d) (m.getD i HOrd.d)=true
    ·refine bm 38 (.bool true) Z (am7 Value.bool c4) <| ae Z <| akv <| aj Z <| ak <| ab <| akw <| am5 Z Z Z ?_;have hswap:=gZ (b:=b) (F:=all (wF H)::pt gh t0 (cs (.slice A m.length c))::F) (A:=A) (c:=c) (n:=m.length) (R:=m) (i:=i) (j:=j) Z (by omega) (by omega);refine cJ 0 Z Z Z Z Z Z (hc.rd _) Z (hswap.ent (af 3 [1,2,0] Z)) ?_;rintro _ _ rfl;refine akv <| aa <| am4 Z Z <| ac <| bh ?_;refine cw (gj m i j,j) (af 3 [2,0,1] Z) ⟨bN i1 (by omega) (by omega),fg _ _ _,.inr hJ.1,?_,.inr ⟨by dsimp only;rcases i5 with ⟨h,_⟩ | ⟨h,_⟩ <;> omega,?_⟩⟩
     ·rw [← i4,hk];simp only [dnG,← hj,if_neg c1,if_pos c4];exact (tK k _ _ _ (by omega)).symm
     ·rcases i5 with ⟨rfl,rfl⟩ | ⟨h1,h2⟩
      ·rw [hj] at c4;rw [mvG,c4,Bool.and_true];simp;omega
      ·exact h2
    ·refine bm 38 (.bool false) Z (am7 Value.bool (by simpa using c4)) ?_;refine ae Z <| akv <| ao Z <| bz <| au <| lh Z <| av <| ap <| ab <| akw <| am5 Z Z Z <| ae Z <| akv <| ai ?_;have e9:m=dnG (n0 - i0) n0 l i0:=by rw [← i4,hk];simp only [dnG,← hj,if_neg c1,if_neg c4]
     refine ar Z Z (af 0 [] Z) ?_;refine ⟨am7 Value.bool ?_,by rw [← e9]⟩;rcases i5 with ⟨rfl,rfl⟩ | ⟨h1,h2⟩
     ·rw [hj] at c4;rw [mvG,Bool.eq_false_iff.2 c4,Bool.and_false];simp
     ·rw [h2];simpa using h1
  ·refine bm 28 (.bool false) Z (by simp;omega) ?_
   (iterate 5 refine ae Z ?_)
   refine akv <| aj Z <| ak <| ab <| ad <| akw <| am5 Z Z Z ?_;have e:j=2*i+1:=by rw [hj,cY,if_neg (fun h=>c2 h.1)]
   subst i2;refine bm 36 (ii j) Z (by congr 1;omega) ?_;refine bm 9 (ii j) Z (by congr 1;omega) ?_;have hless2:=mI (b:=b) (F:=pt gh t0 (cs (.slice A m.length c))::F) (A:=A) (c:=c) (n:=m.length) (R:=m) (H:=H) (i:=j) (j:=i) Z i1 h32 (by omega) (by omega);refine vu 0 Z Z Z Z Z Z (hc.rd _) Z (hless2.at (af 3 [1,2,0] Z) (af 3 [2,0,1] Z)) ?_;by_cases c4:HOrd.lt (m.getD j HOrd.d) (m.getD i HOrd.d)=true
   ·refine bm 38 (.bool true) Z (am7 Value.bool c4) <| ae Z <| akv <| aj Z <| ak <| ab <| akw <| am5 Z Z Z ?_;have hswap:=gZ (b:=b) (F:=all (wF H)::pt gh t0 (cs (.slice A m.length c))::F) (A:=A) (c:=c) (n:=m.length) (R:=m) (i:=i) (j:=j) Z (by omega) (by omega);refine cJ 0 Z Z Z Z Z Z (hc.rd _) Z (hswap.ent (af 3 [1,2,0] Z)) ?_;rintro _ _ rfl;refine akv <| aa <| am4 Z Z <| ac <| bh ?_;refine cw (gj m i j,j) (af 3 [2,0,1] Z) ⟨bN i1 (by omega) (by omega),fg _ _ _,.inr hJ.1,?_,.inr ⟨by dsimp only;rcases i5 with ⟨h,_⟩ | ⟨h,_⟩ <;> omega,?_⟩⟩
    ·rw [← i4,hk];simp only [dnG,← hj,if_neg c1,if_pos c4];exact (tK k _ _ _ (by omega)).symm
    ·rcases i5 with ⟨rfl,rfl⟩ | ⟨h1,h2⟩
     ·rw [hj] at c4;rw [mvG,c4,Bool.and_true];simp;omega
     ·exact h2
   ·refine bm 38 (.bool false) Z (am7 Value.bool (by simpa using c4)) ?_;refine ae Z <| akv <| ao Z <| bz <| au <| lh Z <| av <| ap <| ab <| akw <| am5 Z Z Z <| ae Z <| akv <| ai ?_;have e9:m=dnG (n0 - i0) n0 l i0:=by rw [← i4,hk];simp only [dnG,← hj,if_neg c1,if_neg c4]
    refine ar Z Z (af 0 [] Z) ?_;refine ⟨am7 Value.bool ?_,by rw [← e9]⟩;rcases i5 with ⟨rfl,rfl⟩ | ⟨h1,h2⟩
    ·rw [hj] at c4;rw [mvG,Bool.eq_false_iff.2 c4,Bool.and_false];simp
    ·rw [h2];simpa using h1
end

section
variable {b:World} {F:List SP} {A:Option Addr} {c n gh t0 off:Nat} {l H:List Wn} {cs:Value→List Value} {x:Wn}
theorem Ou (hc:HC cs off) (h32:∀ e∈H,e.e.id.length=32) (hl:∀ e∈l,e∈H) (hx:x∈H) (hn:l.length=n) (hm:n≤900000) :
  SC Tryz.prog dW [.iface fy (.pointer (some ⟨gh,off,none⟩)),.iface fp (pp x.g)] b (pt gh t0 (cs (.slice A n c))::rW A c n l::all (wF H)::F)
   (fun _ F'=>∃ A' c',F'=pt gh t0 (cs (.slice A' (n+1) c'))::rW A' c' (n+1) (upG (n+1) (l ++ [x]) n)::all (wF H)::F):=by
 refine aw Tryz.func201 Z Z Z <| akw <| am4 Z Z <| lE Z Z Z (S9 hc hn (by omega)) ?_;rintro _ _ ⟨A',c',rfl⟩;refine akv <| aa <| am4 Z Z <| vu 0 Z Z Z Z Z Z (hc.rd _) Z zX <| az Z ?_;refine bm 10 (ii n) Z (by congr 1;omega) ?_;have hl':∀ e∈l ++ [x],e∈H:=fun a ha=>by
  rcases anr.1 ha with h | h
  ·exact hl a h
  ·simp at h;subst h;exact hx
 refine bf Z Z Z (Wt (n:=n+1) (l:=l ++ [x]) (j:=n) hc h32 hl' (by simp;omega) (by omega) (by omega)) ?_;rintro _ _ rfl;refine ac <| jb Z .nil (af 0 [] Z) ?_;exact ⟨A',c',rfl⟩
theorem kG {m:List Wn} (hn:m.length=n+1):m=m.take n ++ [m.getD n HOrd.d]:=by
 have h:=(an9 n m).symm;have h2:m.drop n = [m.getD n HOrd.d]:=by
  rw [ano,am8 (by omega),aq1,an8 (by omega),aog (by omega)]
 rwa [h2] at h
theorem Ta (hc:HC cs off) (h32:∀ e∈H,e.e.id.length=32) (hl:∀ e∈l,e∈H) (hn:l.length=n+1) (hm:n≤900000) :
  SC Tryz.prog fD [.iface fy (.pointer (some ⟨gh,off,none⟩))] b (pt gh t0 (cs (.slice A (n+1) c))::rW A c (n+1) l::all (wF H)::F)
   (fun v F'=>v = .iface fp (pp (((ub l).getD n HOrd.d).g))∧F'=pt gh t0 (cs (.slice A n c))::rW A c n ((ub l).take n)::all (wF H)::F):=by
 have p1:=tL l;have ep:=kG (m:=ub l) (p1.trans hn);have hL:((ub l).take n).length=n:=by rw [anm];omega
 have hp:ub l=dnG n n (gj l 0 n) 0:=by rw [ub,hn];rfl
 refine aw Tryz.func206 Z Z Z <| akw <| ae Z <| aan <| ae Z <| vu 0 Z Z Z Z Z Z (hc.rd _) Z zX <| az Z <| ae Z <| aan <| am4 Z Z ?_;refine bm 6 (ii n) Z (by congr 1;omega) ?_;refine bm 8 (ii n) Z (by congr 1;omega) ?_;refine bm 3 (ii n) Z (by congr 1;omega) ?_;have hswap:=gZ (b:=b) (F:=all (wF H)::pt gh t0 (cs (.slice A (n+1) c))::F) (A:=A) (c:=c) (n:=n+1) (R:=l) (i:=0) (j:=n) hn (by omega) (by omega);refine cJ 0 Z Z Z Z Z Z (hc.rd _) Z (hswap.ent (af 3 [1,2,0] Z)) ?_;rintro _ _ rfl;refine aan <| am4 Z Z ?_;have hd:=Wu (b:=b) (F:=F) (A:=A) (c:=c) (n:=n+1) (gh:=gh) (t0:=t0) (l:=gj l 0 n) (n0:=n) (i0:=0) hc h32 (bN hl (by omega) (by omega)) (by rw [fg];exact hn) (by omega) (by omega) (by omega);rw [Nat.sub_zero,← hp] at hd;refine bf Z Z Z (hd.ent (af 3 [2,0,1] Z)) ?_;rintro _ _ ⟨rfl,rfl⟩;rw [ep];refine aan <| ae Z <| lE Z Z Z (Ot hc hL (by omega)) ?_;rintro _ _ ⟨rfl,rfl⟩;refine ae Z <| akv <| ai <| ar Z Z (af 0 [] Z) ?_;exact ⟨by rw [← ep];rfl,by rw [← ep]⟩
def sh (l:List Wn) (i n:Nat):List Wn:=if i=n then l else if mvG n (gj l i n) i then dnG (n - i) n (gj l i n) i else upG (i+1) (dnG (n - i) n (gj l i n) i) i
theorem mJ (l:List Wn) (i n:Nat):(sh l i n).length=l.length:=by
 unfold sh;split;rfl;split;rw [cZ,fg];rw [zW,cZ,fg]
theorem Le {i:Nat} (hc:HC cs off) (h32:∀ e∈H,e.e.id.length=32) (hl:∀ e∈l,e∈H) (hn:l.length=n+1) (hi:i≤n) (hm:n≤900000) :
  SC Tryz.prog aW [.iface fy (.pointer (some ⟨gh,off,none⟩)),ii i] b (pt gh t0 (cs (.slice A (n+1) c))::rW A c (n+1) l::all (wF H)::F)
   (fun v F'=>v = .iface fp (pp (((sh l i n).getD n HOrd.d).g))∧F'=pt gh t0 (cs (.slice A n c))::rW A c n ((sh l i n).take n)::all (wF H)::F):=by
 have p1:=mJ l i n;have ep:=kG (m:=sh l i n) (p1.trans hn);have hL:((sh l i n).take n).length=n:=by rw [anm];omega
 have fin:∀ {F},SC Tryz.prog n_p_hold_waiting_Pop [.pointer (some ⟨gh,off,none⟩)] b (pt gh t0 (cs (.slice A (n+1) c))::rW A c (n+1) (sh l i n)::F)
   (fun v F'=>v = .iface fp (pp (((sh l i n).getD n HOrd.d).g))∧F'=pt gh t0 (cs (.slice A n c))::rW A c n ((sh l i n).take n)::F):=fun {F}=>by
  have:=Ot (b:=b) (F:=F) (A:=A) (c:=c) (gh:=gh) (t0:=t0) (x:=(sh l i n).getD n HOrd.d) (R:=(sh l i n).take n) hc hL (by omega);rwa [← ep] at this
 refine aw Tryz.func131 Z Z Z <| akw <| ae Z <| aan <| ae Z <| vu 0 Z Z Z Z Z Z (hc.rd _) Z zX <| az Z <| ae Z <| akv <| ad <| akw <| am5 Z Z Z <| akv ?_;refine ik 5 (ii n) Z (by congr 1;omega) ?_;by_cases e:i=n
 ·refine ik 11 (.bool false) Z (by simp;omega) ?_;refine aj Z <| ak <| ab <| akw <| ae Z ?_;have er:sh l i n=l:=by rw [sh,if_pos e]
  rw [er] at fin ⊢;refine lE Z Z Z fin ?_;rintro _ _ ⟨rfl,rfl⟩;refine ae Z <| akv <| ai <| ar Z Z (af 0 [] Z) ?_;exact ⟨rfl,rfl⟩
 ·refine ik 11 (.bool true) Z (by simp;omega) ?_;refine ao Z <| akw <| am5 Z Z Z ?_;have hswap:=gZ (b:=b) (F:=all (wF H)::pt gh t0 (cs (.slice A (n+1) c))::F) (A:=A) (c:=c) (n:=n+1) (R:=l) (i:=i) (j:=n) hn (by omega) (by omega);refine cJ 0 Z Z Z Z Z Z (hc.rd _) Z (hswap.ent (af 3 [1,2,0] Z)) ?_;rintro _ _ rfl;refine aan <| am5 Z Z Z ?_;have hsub:=bN hl (i:=i) (j:=n) (by omega) (by omega);have hlen:(gj l i n).length=n+1:=by rw [fg];exact hn
  have hd:=Wu (b:=b) (F:=F) (A:=A) (c:=c) (n:=n+1) (gh:=gh) (t0:=t0) (l:=gj l i n) (n0:=n) (i0:=i) hc h32 hsub hlen (by omega) (by omega) (by omega);refine bf Z Z Z (hd.ent (af 3 [2,0,1] Z)) ?_;rintro _ _ ⟨rfl,rfl⟩;cases q:mvG n (gj l i n) i with
  | true =>
   have er:sh l i n=dnG (n - i) n (gj l i n) i:=by rw [sh,if_neg e,if_pos q]
   rw [er] at fin ⊢;refine ae Z <| akv <| aj Z <| ak <| ab <| akw <| ae Z <| lE Z Z Z fin ?_;rintro _ _ ⟨rfl,rfl⟩;refine ae Z <| akv <| ai <| ar Z Z (af 0 [] Z) ?_;exact ⟨rfl,rfl⟩
  | false =>
   have er:sh l i n=upG (i+1) (dnG (n - i) n (gj l i n) i) i:=by rw [sh,if_neg e,if_neg (by rw [q];decide)]
   have hu:=Wt (b:=b) (F:=F) (A:=A) (c:=c) (n:=n+1) (gh:=gh) (t0:=t0) (l:=dnG (n - i) n (gj l i n) i) (j:=i) hc h32 (fun a ha=>hsub a ((tN _ _ _ _ (by omega) (by omega)).subset ha)) (by rw [cZ];exact hlen) (by omega) (by omega);rw [← er] at hu;refine ae Z <| akv <| ao Z <| aa <| am4 Z Z <| bf Z Z Z (hu) ?_;rintro _ _ rfl;refine aan <| ae Z <| lE Z Z Z fin ?_;rintro _ _ ⟨rfl,rfl⟩;refine ae Z <| akv <| ai <| ar Z Z (af 0 [] Z) ?_;exact ⟨rfl,rfl⟩
end

theorem Yv (k:Nat):∀ (l:List Wn) (j m:Nat),j<m→j<l.length→m<l.length→atG (upG k l j) m=atG l m:=by
 induction k with
 | zero => intro l j m _ _ _; rfl
 | succ k ih =>
  intro l j m hm hj hml;simp only [upG]
  split
  ·rfl
  ·split
   ·rw [ih _ _ _ (by omega) (by rw [fg];omega) (by rw [fg];omega),y4 l (by omega) hj,if_neg (by omega),if_neg (by omega)]
   ·rfl
theorem l9 {l:List Wn} {n i:Nat} (h:i<n):(l.take n).getD i HOrd.d=l.getD i HOrd.d:=by
 simp only [ano,aoq,if_pos h]
theorem G4 {l:List Wn} {n i j:Nat} (hi:i<n) (hj:j<n):(gj l i j).take n=gj (l.take n) i j:=by
 unfold gj;rw [l9 hi,l9 hj,List.take_set,List.take_set]
theorem Ov (k:Nat):∀ (l:List Wn) (j n:Nat),j<n→(upG k l j).take n=upG k (l.take n) j:=by
 induction k with
 | zero => intro l j n _; rfl
 | succ k ih =>
  intro l j n hj;simp only [upG];rw [l9 hj,l9 (show (j - 1) / 2<n by omega)]
  split
  ·rfl
  ·split
   ·rw [ih _ _ _ (by omega),G4 (by omega) hj]
   ·rfl
theorem Dk {n i:Nat} {l:List Wn} (k:Nat) (h:mvG n l i=false):dnG k n l i=l:=by
 cases k with
 | zero => rfl
 | succ k =>
  simp only [dnG]
  split
  ·rfl
  ·rename_i h1
   split
   ·rename_i h2
    rw [mvG,h2,Bool.and_true] at h;simp at h;omega
   ·rfl
theorem Dl {n:Nat} {l:List Wn}:hpG n (l.take n)↔hpG n l:=by
 constructor
 ·intro h i a c;have:=h i a c;rwa [atG,atG,l9 c,l9 (show (i - 1) / 2<n by omega)] at this
 ·intro h i a c;have:=h i a c;rwa [atG,atG,l9 c,l9 (show (i - 1) / 2<n by omega)]
theorem Tc {l:List Wn} {n i:Nat} (hn:l.length=n+1) (hi:i≤n) (h:hpG (n+1) l):hpG n (sh l i n):=by
 by_cases e:i=n
 ·rw [sh,if_pos e];intro k a c;exact h k a (by omega)
 have hin:i<n:=by omega
 have sw:=y4 l (i:=i) (j:=n) (by omega) (by omega);have hlen:(gj l i n).length=n+1:=by rw [fg];exact hn
 rw [sh,if_neg e];have hch:∀ k,0<k→k<n→(k - 1) / 2=i→leG (atG l i) (atG l k):=fun k a c d=>by have:=h k a (by omega);rwa [d] at this
 by_cases hA:i=0∨leG (atG l ((i - 1) / 2)) (atG l n)
 ·have hd:hpG n (dnG (n - i) n (gj l i n) i):=by
   refine Oj (n - i) n (gj l i n) i (by omega) (by omega) ⟨fun k a c d=> ?_,fun k a c d f=> ?_⟩
   ·rw [sw,sw,if_neg (by omega),if_neg d,if_neg (by omega)];by_cases e1:k=i
    ·rw [if_pos e1];rcases hA with h0 | h0
     ·omega
     ·rw [e1];exact h0
    ·rw [if_neg e1];exact h k a (by omega)
   ·rw [sw,sw,if_neg (by omega),if_neg (by omega),if_neg (by omega),if_neg (by omega)];exact qi (h i f (by omega)) (hch k a c d)
  split
  ·exact hd
  ·rename_i hq
   have hs:=Dk (n:=n) (i:=i) (l:=gj l i n) (n - i) (by simpa using hq);rw [hs] at hd ⊢;have:upG (i+1) (gj l i n) i=gj l i n:=by
    simp only [upG]
    split
    ·rfl
    ·rename_i h0
     split
     ·rename_i h1
      exact absurd h1 (hd i (by omega) hin)
     ·rfl
   rw [this];exact hd
 ·have h0:¬ i=0:=fun h=>hA (.inl h)
  have hlt:leG (atG l n) (atG l ((i - 1) / 2)):=by
   have:HOrd.lt (atG l n) (atG l ((i - 1) / 2))=true:=aqu fun hc=>hA (.inr hc)
   exact tM this
  have hpi:=h i (by omega) (by omega);have hle:∀ k,0<k→k<n→(k - 1) / 2=i→leG (atG l n) (atG l k):=fun k a c d=>qi hlt (qi hpi (hch k a c d))
  have hmv:mvG n (gj l i n) i=false:=by
   rw [Bool.eq_false_iff];intro hm;simp only [mvG,anw,Bool.not_eq_true',aqg] at hm;obtain ⟨c1,c2⟩:=hm;have hJ:=gY (l:=gj l i n) c1;have hJp:(cY n (gj l i n) i - 1) / 2=i:=by unfold cY;split <;> omega
   generalize cY n (gj l i n) i=j at *;have:=hle j (by omega) hJ.1 hJp;change HOrd.lt (atG (gj l i n) j) (atG (gj l i n) i)=true at c2;rw [sw,sw,if_neg (by omega),if_neg (by omega),if_neg (by omega),if_pos rfl] at c2;exact this c2
  rw [if_neg (by rw [hmv];decide),Dk _ hmv,← Dl,Ov _ _ _ _ hin];have htl:((gj l i n).take n).length=n:=by rw [anm,hlen];omega
  have:=Oi (i+1) ((gj l i n).take n) i (by omega) (by rw [htl];exact hin) ⟨fun k a c d=> ?_,fun k a c d f=> ?_⟩
  ·rwa [htl] at this
  ·rw [htl] at c;rw [atG,atG,l9 c,l9 (show (k - 1) / 2<n by omega)];change leG (atG (gj l i n) ((k - 1) / 2)) (atG (gj l i n) k);by_cases e1:(k - 1) / 2=i
   ·rw [sw,sw,if_neg (by omega),if_pos e1,if_neg (by omega),if_neg d];exact hle k a c e1
   ·rw [sw,sw,if_neg (by omega),if_neg e1,if_neg (by omega),if_neg d];exact h k a (by omega)
  ·rw [htl] at c;rw [atG,atG,l9 c,l9 (show (i - 1) / 2<n by omega)];change leG (atG (gj l i n) ((i - 1) / 2)) (atG (gj l i n) k);rw [sw,sw,if_neg (by omega),if_neg (by omega),if_neg (by omega),if_neg (by omega)];exact qi hpi (hch k a c d)
theorem Lf {l:List Wn} {n i:Nat} (hn:l.length=n+1) (hi:i≤n):(sh l i n).Perm l:=by
 have hlen:(gj l i n).length=n+1:=by rw [fg];exact hn
 have h1:=y5 (l:=l) (i:=i) (j:=n) (by omega) (by omega);have h2:=(tN (n - i) n (gj l i n) i (by omega) (by omega)).trans h1;unfold sh
 split
 ·exact .refl _
 ·split
  ·exact h2
  ·exact (Dg _ _ _ (by rw [cZ];omega)).trans h2
theorem Td {l:List Wn} {n i:Nat} (hn:l.length=n+1) (hi:i≤n):(sh l i n).getD n HOrd.d=l.getD i HOrd.d:=by
 have sw:=y4 l (i:=i) (j:=n) (by omega) (by omega);have hlen:(gj l i n).length=n+1:=by rw [fg];exact hn
 unfold sh
 split
 ·rename_i e;rw [e]
 ·have h1:atG (dnG (n - i) n (gj l i n) i) n=atG l i:=by
   rw [Ok _ _ _ _ _ (aoc _) (by omega) (by omega),sw,if_pos rfl]
  split
  ·exact h1
  ·change atG (upG (i+1) _ i) n=_;rw [Yv _ _ _ _ (by omega) (by rw [cZ];omega) (by rw [cZ];omega)];exact h1

theorem hc1:HC (fun v=> [v]) 0:=⟨fun _=>rfl,fun _ _=>rfl⟩
theorem hcq (q m:Value):HC (fun v=> [q,v,m]) 1:=⟨fun _=>rfl,fun _ _=>rfl⟩
section
variable {b:World} {F:List SP} {R H:List Wn} {h:Value}
theorem Lg (ha:∀ w,Sat b (all (wF H)::F) w→SL w 1 h R.length (qa R)) (h32:∀ e∈H,e.e.id.length=32) (hs:∀ e∈R,e∈H) (hp:hpG R.length R) (hn:R.length≤100000) :
  SC Tryz.prog cQ [h] b (all (wF H)::F) (fun v F'=>∃ O:List Wn,O.Perm R∧O.Pairwise leG∧F'=rP v O::all (wF H)::F):=by
 refine aw Tryz.func129 Z Z Z <| akw <| ae Z <| aan <| ae Z <| bf Z Z Z (G2 ha (by omega)) ?_;rintro v5 _ rfl;refine b9 (fun w H=>(H.oat (k:=0) Z).form) ?_;rintro ⟨A0,c0,rfl,_,_,_⟩
 skip
 refine db Z Z Z Z Z fun g3=>eu 0 Z Z Z Z <| akv <| ad <| am ?_
 refine dt (S:=List Wn × List Wn × Nat × Nat × Option Addr × Nat × Option Addr × Nat) (fun s=> [(2,.slice s.2.2.2.2.2.2.1 s.2.2.2.1 s.2.2.2.2.2.2.2),(3,pp g3)])
  (fun s=>pt g3 sX [.slice s.2.2.2.2.1 s.2.2.1 s.2.2.2.2.2.1]::rW s.2.2.2.2.1 s.2.2.2.2.2.1 s.2.2.1 s.2.1::rW s.2.2.2.2.2.2.1 s.2.2.2.2.2.2.2 s.2.2.2.1 s.1::all (wF H)::F)
  (fun s=>s.2.1.length=s.2.2.1∧s.1.length=s.2.2.2.1∧(∀ e∈s.2.1,e∈H)∧hpG s.2.2.1 s.2.1∧(s.1++s.2.1).Perm R∧s.1.Pairwise leG∧∀ x∈s.1,∀ y∈s.2.1,leG x y) (fun s=>s.2.2.1)
  ([],R,R.length,0,A0,c0,none,0) ?_ ⟨rfl,rfl,hs,hp,.refl _,.nil,fun _ h=>by simp at h⟩ ?_
 ·exact (df fp 1 Z).trans (af 3 [1,2,0] Z)
 rintro ⟨O,m,n,o,A,c,OA,Oc⟩ ⟨i1,i2,i3,i4,i5,i6,i7⟩;dsimp only at i1 i2 i3 i4 i5 i6 i7 ⊢;have hle:n≤100000∧o≤100000:=by have:=i5.length_eq;simp at this;omega
 refine ad <| akw <| bt 0 Z Z Z <| bg Z Z Z (zX) <| ae Z <| akv ?_;refine de Z (fun h0=> ?_) (fun h0=> ?_)
 ·obtain ⟨k,rfl⟩:∃ k,n=k+1:=⟨n - 1,by omega⟩;obtain ⟨q1,q2,q3⟩:=S8 i1 i4;refine ak <| ab <| am <| aa <| am4 Z Z <| bf Z Z Z (Ta (cs:=fun v=> [v]) hc1 h32 i3 i1 (by omega) |>.ent (af 4 [0,1,3,2] Z)) ?_;rintro _ _ ⟨rfl,rfl⟩;have hl2:=tL m;generalize (ub m).getD k HOrd.d=x at *;have hl3:((ub m).take k).length=k:=by rw [anm];omega
  generalize (ub m).take k=m3 at *
  skip
  refine aaq Z Z Z Z Z Z <| ql [pp x.g] Z Z Z Z Z Z Z Z Z fun gl=> ?_;refine ef 4 Z Z Z Z Z Z Z Z Z (m:=1) (news:= [pp x.g]) (fun w H=>(H.blk (k:=0) Z).sl Z (by decide)) (fun u hu=>by simp at hu;subst hu;rfl) (by omega) (fun _=>rfl) fun v8=> ?_;have e:qa O ++ [pp x.g]=qa (O ++ [x]):=by simp [qa]
  rw [e];refine b9 (fun w H=>(H.oat (k:=4) Z).form) ?_;rintro ⟨A7,c7,rfl,_,_,_⟩;refine ae Z <| ac <| bh ?_;refine cw (O ++ [x],m3,k,o+1,A,c,A7,c7) (af 5 [1,2,4,3] Z) ⟨hl3,by simp;omega,fun e he=>i3 e (q2.subset (ank _ he)),q1,?_,?_,?_⟩
  ·dsimp only;rw [anh];exact (List.Perm.append_left O q2).trans i5
  ·refine aof.2 ⟨i6,by simp,fun a ha z hz=> ?_⟩;obtain rfl:z=x:=by simpa using hz
   exact i7 a ha z (q2.subset anl)
  ·intro a ha z hz;rcases anr.1 ha with ha | ha
   ·exact i7 a ha z (q2.subset (ank _ hz))
   ·obtain rfl:a=x:=by simpa using ha
    exact q3 z hz
 ·refine bz <| au <| av <| ap <| ab <| akw <| am4 Z Z <| akv <| ai ?_;obtain rfl:m = []:=an3 (by omega);subst i2;refine ar Z Z (af 3 [2] Z) ?_;exact ⟨O,by simpa using i5,i6,rfl⟩
end

section
variable {b:World} {F:List SP} {gq gm:Nat} {v h:Value} {V:List Int} {R H:List Wn} {e:Wn}
theorem Ow (hV:V.length≤1000000):SC Tryz.prog uf [pp gq] b (stH gq gm v V h R H F) (fun u F'=>F'=rZ u V::stH gq gm v V h R H F):=by
 refine aw Tryz.func20 Z Z Z <| akw <| ae Z <| akv <| ad <| akw <| ae Z <| bg Z Z Z (tI) <| akv <| aj Z <| ak <| ab <| akw <| am5 Z Z Z <| bt 0 Z Z Z <| bf Z Z Z (cX (vlZ (k:=1) Z) hV) ?_;rintro _ _ rfl;refine ae Z <| akv <| ai <| ar Z Z ax ?_
 rfl
theorem zY {k i:Nat} {u:Value} (hk:nth F k=some (all (wF H))) (he:e∈H) (hu:nth (waC e) i=some u):∀ w,Sat b F w→w.cell? ⟨e.g,i,none⟩=some u:=fun w hS=>by
 rw [(tP hk he w hS).cell i,← lw];exact hu
theorem Ox (he:e∈H):SC Tryz.prog iP [pp gq,pp e.g] b (stH gq gm v V h R H F) (fun u F'=>u = .bool (lf e.e.deps V)∧F'=stH gq gm v V h R H F):=by
 refine aw Tryz.func130 Z Z Z <| akw <| ae Z <| akv <| ad <| cn flo (stH gq gm v V h R H F) (by decide +kernel) ax <| ay Z Zl <| ay Z Zl <| ay Z Zl <| ay Z Zl <| ij Z (fun w H=>br Z Z Z (zY (k:=4) (i:=2) Z he Z w H)) Z Z <| ay Z Zl <| ay Z Zl <| ay Z Zl <| cl 0 Z Z Z Z <| dh Z Z Z Z (SC.ofExt fun w H=>tB (Di (k:=4) Z he w H) (vlZ (k:=1) Z w H)) ax <| ay Z Zl <| aq <| ab <| ai <| ar Z Z ax ?_;exact ⟨rfl,rfl⟩
end

def pQ:List (Int × Int)→List Value
 | [] => []
 | d :: l => ii d.1 :: ii d.2 :: pQ l
theorem Lh (l:List (Int × Int)) (r n:Int):pQ l ++ [ii r,ii n]=pQ (l ++ [(r,n)]):=by
 induction l with
 | nil => rfl
 | cons d l ih => simp only [pQ, aoe, ih]
abbrev rO (A:Option Addr) (c n:Nat) (l:List (Int × Int)):SP:=row t_api_Dot 2 (.slice A n c) n (pQ l)
def ip (V:List Int) (O:List Wn):List (Int × Int):=(O.filter fun w=>lf w.e.deps V).map fun w=>(w.e.r,w.e.n)
theorem G5 (V:List Int) (O:List Wn) (w:Wn):ip V (O ++ [w])=if lf w.e.deps V then ip V O ++ [(w.e.r,w.e.n)] else ip V O:=by
 unfold ip;rw [aov,anu];by_cases h:lf w.e.deps V=true
 ·rw [if_pos h];simp [h]
 ·rw [if_neg h];simp [h]
theorem Oy (V:List Int) (O:List Wn):(ip V O).length≤O.length:=by
 unfold ip;rw [anf];exact apc _ _
section
variable {b:World} {F:List SP} {gq gm:Nat} {v h:Value} {V:List Int} {R H:List Wn}
theorem Yw (h32:∀ e∈H,e.e.id.length=32) (hs:∀ e∈R,e∈H) (hp:hpG R.length R) (hn:R.length≤100000) :
  SC Tryz.prog xb [pp gq] b (stH gq gm v V h R H F) (fun u F'=>∃ O A c,O.Perm R∧O.Pairwise leG∧u = .slice A (ip V O).length c∧F'=rO A c (ip V O).length (ip V O)::stH gq gm v V h R H F):=by
 refine aw Tryz.func48 Z Z Z <| akw <| ae Z <| akv <| ad <| akw <| ae Z <| bg Z Z Z (tI) <| akv <| aj Z <| ak <| ab <| ad <| akw <| am5 Z Z Z <| bt 0 Z Z Z <| bf Z Z Z ((Lg (F:=pt gq ml [v,h,.map (some gm)]::rZ v V::rP h R::mpH gm H::F) (up (fun w H=>(H.oat (k:=2) Z).sl) (af 5 [1,2,3,4,0] Z)) h32 hs hp hn).ent (af 5 [4,0,1,2,3] Z)) ?_;rintro v11 _ ⟨O,hO1,hO2,rfl⟩;refine b9 (fun w H=>(H.oat (k:=0) Z).form) ?_;rintro ⟨A1,c1,rfl,_,_,k3⟩;have hOl:=hO1.length_eq;refine am4 Z Z <| akv <| am ?_;refine dt (S:=Nat × Nat × Option Addr × Nat) (fun s=> [(0,pp gq),(2,.slice s.2.2.1 s.2.1 s.2.2.2),(11,.slice A1 O.length c1),(12,ii O.length),(13,ii s.1)])
  (fun s=>rO s.2.2.1 s.2.2.2 s.2.1 (ip V (O.take s.1))::rW A1 c1 O.length O::stH gq gm v V h R H F) (fun s=>s.1≤O.length∧(ip V (O.take s.1)).length=s.2.1) (fun s=>O.length - s.1) (0,0,none,0) ?_ ⟨anq _,rfl⟩ ?_
 ·exact (df t_api_Dot 2 Z).trans (af 7 [0,1,3,4,5,6,2] Z)
 rintro ⟨i,o,A,c⟩ ⟨hi,ho⟩;dsimp only at hi ho ⊢;have hole:=Oy V (O.take i);rw [anm] at hole;refine akw <| ae Z <| akv <| ad ?_;refine de Z (fun h1=> ?_) (fun h1=> ?_)
 ·have h1':i<O.length:=by omega
  obtain ⟨gg,oo,rfl⟩:=k3 (by omega);have hmem:O[i]∈H:=hs _ (hO1.subset (ana h1'));have ci:(qa O)[i]? = some (pp (O[i].g)):=by simp [qa,h1']
  have hsn:ip V (O.take (i+1))=if lf O[i].e.deps V then ip V (O.take i) ++ [(O[i].e.r,O[i].e.n)] else ip V (O.take i):=by rw [ang h1'];exact G5 V _ _
  generalize O[i]=x at *;refine ak <| ab <| ad <| am <| akw <| az Z ?_;refine fc Z (fun w H=>br Z Z Z (by rw [bq,am6,aop];exact aP (k:=1) Z ci w H)) Z ?_;refine ae Z <| aan <| am4 Z Z <| bg Z Z Z ((Ox hmem).at (af 7 [2,3,4,5,6,0,1] Z) (af 7 [5,6,0,1,2,3,4] Z)) ?_;cases hq:lf x.e.deps V with
  | false =>
   rw [hq] at hsn;refine akv <| aj Z <| ak <| bh <| ab <| aa <| az Z <| ae Z <| ac ?_;refine cw (i+1,o,A,c) (by simp only [hsn];exact Ent.refl _) ⟨h1',by dsimp only;rw [hsn];exact ho⟩
  | true =>
   rw [hq,if_pos rfl] at hsn;refine akv <| ao Z <| aa ?_
   (iterate 5 refine ae Z ?_)
   refine fc Z (fun w H=>cg (cs:= [ii x.e.r,ii x.e.n]) Z Z Z Z (fun j hj=>by
    rw [aob];rcases j with _ | _ | j
    ·exact zY (k:=6) (i:=0) Z hmem Z w H
    ·exact zY (k:=6) (i:=1) Z hmem Z w H
    ·simp only [anp,ao1] at hj;omega)) Z ?_
   refine lr Z Z Z Z Z Z Z Z (by decide) fun gl=> ?_;refine ef 1 Z Z Z Z Z Z Z Z Z (m:=1) (news:= [ii x.e.r,ii x.e.n]) (fun w H=>(H.blk (k:=0) Z).sl Z (by decide)) (fun u hu=>by simp at hu;rcases hu with rfl | rfl <;> rfl) (by omega) (fun _=>rfl) fun v8=> ?_;rw [Lh];refine b9 (fun w H=>(H.oat (k:=1) Z).form) ?_;rintro ⟨A7,c7,rfl,_,_,_⟩;refine ae Z <| ac <| bh <| ab <| aa <| az Z <| ae Z <| ac ?_;refine cw (i+1,o+1,A7,c7) (by simp only [hsn];exact af 8 [1,2,3,4,5,6,7] Z) ⟨h1',by dsimp only;rw [hsn,am9,ho];rfl⟩
 ·refine bz <| au <| av <| ap <| ab <| akw <| am4 Z Z <| akv <| ai ?_;obtain rfl:i=O.length:=by omega
  rw [an7] at ho ⊢;subst ho;refine ar Z Z (af 7 [0,2,3,4,5,6] Z) ?_;exact ⟨O,A,c,hO1,hO2,rfl,rfl⟩
end

theorem jA (x:Int):(Lit.int .i64 x).wf=true↔I64 x:=by
 have h1:IntKind.i64.min = -9223372036854775808:=by decide
 have h2:IntKind.i64.max=9223372036854775807:=by decide
 simp [Lit.wf,h1,h2,I64]
def nS:Value:= .slice none 0 0
def nE (e:Ev):Ev:=e.own nS nS
def nW (w:Wn):Wn:=⟨0,nE w.e,w.src⟩
def flC {α:Type} (f:α→List Value):List α→List Value
 | [] => []
 | a :: l => f a ++ flC f l
section
variable {α:Type} {f:α→List Value} {l:List α} {sz:Nat}
theorem fu (a c:List α):flC f (a++c)=flC f a++flC f c:=by
 induction a with
 | nil => rfl
 | cons x a ih => simp only [aoe, flC, ih, anh]
theorem ju (h:∀ a∈l,(f a).length=sz):(flC f l).length=l.length*sz:=by
 induction l with
 | nil => simp [flC]
 | cons x l ih =>
  have h1:=h x anl;have h2:=ih fun w hw=>h w (ank _ hw)
  simp only [flC,am9,h1,h2,anp,ap1];omega
theorem sD (h:∀ a∈l,(f a).length=sz) {i:Nat} (hi:i<l.length) {j:Nat} (hj:j<sz):(flC f l)[i*sz+j]? = (f l[i])[j]?:=by
 induction l generalizing i with
 | nil => simp at hi
 | cons x l ih =>
  have h1:=h x anl;cases i with
  | zero => simp only [flC, Nat.zero_mul, aob, aq3]; exact aot (by omega)
  | succ i =>
   simp only [flC,List.getElem_cons_succ];rw [apu (by rw [h1,ap1];omega),h1,ap1,show i*sz+sz+j - sz=i*sz+j by omega];exact ih (fun w hw=>h w (ank _ hw)) (by simpa using hi)
theorem pa (h:∀ a∈l,(f a).length=sz) {i:Nat} (hi:i<l.length):((flC f l).drop (i*sz)).take sz=f l[i]:=by
 apply aqy;intro j;rw [aoq,aow];have h1:=h _ (ana hi)
 split
 ·rename_i hj;exact sD h hi hj
 ·rename_i hj;rw [aps (by omega)]
theorem vf (h:∀ a∈l,(f a).length=sz) {i:Nat} {x:α} (hx:(f x).length=sz) (hi:i<l.length):spl (flC f l) (i*sz) (f x)=flC f (l.set i x):=by
 induction l generalizing i with
 | nil => simp at hi
 | cons y l ih =>
  have h1:=h y anl;cases i with
  | zero =>
   simp only [List.set_cons_zero,flC,spl,Nat.zero_mul,ap4,aos,aob,hx];rw [apy (by omega),aog (by omega),aos]
  | succ i =>
   have:=ih (fun w hw=>h w (ank _ hw)) (by simpa using hi);simp only [aq5,flC,← this,spl];rw [ap1,show i*sz+sz=(f y).length+i*sz by omega,aq4,show (f y).length+i*sz+(f x).length=(f y).length+(i*sz+(f x).length) by omega,List.drop_length_add_append,anh]
theorem cK (h:∀ a∈l,∀ u∈f a,u.oneCell'=true):∀ u∈flC f l,u.oneCell'=true:=by
 induction l with
 | nil => intro u hu; simp [flC] at hu
 | cons x l ih =>
  intro u hu;rcases anr.1 hu with hu | hu
  ·exact h x anl u hu
  ·exact ih (fun w hw=>h w (ank _ hw)) u hu
theorem zG {w:World} {bk off n c j:Nat} {cs:List Value} (h:SL w sz (.slice (some ⟨bk,off,none⟩) n c) n cs) (hj:j<cs.length):w.cell? ⟨bk,off+j,none⟩=cs[j]?:=by
 obtain ⟨A,c',hv,hl,_,_,_,hc⟩:=h;cases hv;obtain ⟨b',o',hA,_,hcc⟩:=hc (by
  rcases aoo n with h0 | h0
  ·subst h0;simp at hl;subst hl;simp at hj
  ·exact h0)
 cases hA;exact hcc j hj
theorem fb {w:World} {bk off c i j:Nat} (h:SL w sz (.slice (some ⟨bk,off,none⟩) l.length c) l.length (flC f l)) (hf:∀ a∈l,(f a).length=sz) (hi:i<l.length) (hj:j<sz):w.cell? ⟨bk,off+i*sz+j,none⟩=(f l[i])[j]?:=by
 rw [apv,zG h,sD hf hi hj];rw [ju hf];have:(i+1)*sz≤l.length*sz:=ao2 _ hi;rw [ap1] at this;omega
end
theorem jQ {l:List Value} (m:List Value) {n:Nat} (h:l.length=n):wp (l++m) 0 n=some l:=by
 subst h
 induction l with
 | nil => cases m <;> rfl
 | cons a l ih => simp only [aoe, anp, wp, ih]
theorem fU {e:Ev} (h:e.id.length=32):wp (evC e) 6 32=some (u8s e.id):=jQ (n:=32) _ (by rw [dr,h])
theorem Oz {e:Ev} {v:Value} (h:e.id.length=32):stO (evC e) 38 v=some (evC {e with rv:=v}):=by
 refine zT (by rw [di h];omega) ?_;simp only [evC,aq5];have:=G1 (u8s e.id) e.rv v [];rw [dr,h] at this;rw [this]
theorem re (l:List (List Int)):ig l=flC u8s l:=by
 induction l with
 | nil => rfl
 | cons x l ih => simp only [ig, flC, ih]
abbrev qF:List Ev→List Value:=flC evC
def evP (e:Ev):List SP:= [rZ e.dv e.deps,rD e.rv e.refs]
def evF:List Ev→List SP
 | [] => []
 | e :: l => evP e ++ evF l
theorem zZ (a c:List Ev):evF (a++c)=evF a++evF c:=by
 induction a with
 | nil => rfl
 | cons x a ih => simp only [aoe, evF, ih, anh]
theorem Dm {a:List Ev} {x:Ev}:(evF (a ++ [x])).Perm (evP x++evF a):=by
 rw [zZ];exact ao9.trans (.of_eq (by simp [evF]))
abbrev rEn (A:Option Addr) (c n:Nat) (l:List Ev):SP:=row ba 39 (.slice A n c) n (qF l)
abbrev rEs (v:Value) (l:List Ev):SP:=row ba 39 v l.length (qF l)
structure ER (w:World) (e:Ev):Prop where
 dv:VL (Value.int .i64) w e.dv e.deps
 rv:SL w 32 e.rv e.refs.length (ig e.refs)
structure EW (e:Ev):Prop where
 id:idOk e.id
 dot:lm (e.r,e.n)
 rf:∀ x∈e.refs,idOk x
 kind:I64 e.kind
 dp:∀ x∈e.deps,I64 x
 rs:e.repo.size≤maxLen
 ts:e.tag.size≤maxLen
theorem EW.l32 {e:Ev} (h:EW e):e.id.length=32:=h.id.1
theorem EW.r32 {e:Ev} (h:EW e):fT e.refs:=fun x hx=>(h.rf x hx).1
theorem EW.own {e:Ev} (h:EW e) (dv rv:Value):EW (e.own dv rv):=⟨h.id,h.dot,h.rf,h.kind,h.dp,h.rs,h.ts⟩
structure EL (w:World) (v:Value) (l:List Ev):Prop where
 sl:SL w 39 v l.length (qF l)
 er:∀ m∈l,ER w m
section
variable {b:World} {F:List SP} {e:Ev} {l:List Wn}
theorem tQ {l:List Ev} {k:Nat} (hk:nth F k=some (all (evF l))) {m:Ev} (hm:m∈l):∀ w,Sat b F w→ER w m:=fun w hS=>by
 obtain ⟨l1,l2,rfl⟩:=ao3 hm;obtain ⟨h1,hl,hA⟩:=hS.mem.get hk;have hp:(evF (l1++m::l2)).Perm (evP m++evF (l1++l2)):=by
  rw [zZ,evF,zZ,← anh,← anh];exact ao9.append_right _
 have h2:Sat b (evP m++evF (l1++l2)) w:=⟨hS.os,hS.tape,hS.output,(je hp _ hA).mono hl⟩;exact ⟨vlZ (k:=0) Z w h2,(h2.oat (k:=1) Z).sl⟩
theorem tT {va vb:Value} {xs ys:List Int} (ha:∀ w,Sat b F w→VL (Value.int .i64) w va xs) (hb:∀ w,Sat b F w→VL (Value.int .i64) w vb ys):SC Tryz.prog s7 [va,vb] b F (fun v F'=>v = .bool (decide (xs=ys))∧F'=F) :=
 SC.ofExt fun w H=>wB (ha w H) (hb w H)
theorem Li {va vb:Value} {l:List (List Int)} (ha:∀ w,Sat b F w→SL w 32 va l.length (ig l)) (hb:∀ w,Sat b F w→SL w 32 vb l.length (ig l)) (hl:fT l) (hm:l.length≤1000000):SC Tryz.prog dS [va,vb] b F (fun v F'=>v = .bool true∧F'=F):=by
 refine aw Tryz.func26 Z Z Z <| bu (fun w H=>cp (ha w H)) ?_;rintro ⟨A,c,rfl,h1,h2,h3,h4,_⟩;refine bu (fun w H=>cp (hb w H)) ?_;rintro ⟨B,d,rfl,q1,q2,q3,q4,_⟩;refine akw <| ae Z <| aan ?_
 (iterate 6 refine ae Z ?_)
 refine akv <| ad <| akw <| ae Z <| akv <| am ?_;refine ik 5 (.bool true) Z (by simp) ?_;refine dt (S:=Nat) (fun i=> [(0,.slice A l.length c),(1,.slice B l.length d),(5,.bool true),(6,ii i)]) (fun _=>F) (fun i=>i≤l.length) (fun i=>l.length - i) 0 ax (anq _) ?_;intro i hi;refine ad <| akw ?_
 (iterate 7 refine ae Z ?_)
 refine akv ?_;refine de Z (fun g1=> ?_) (fun g1=> ?_)
 ·have g1':i<l.length:=by omega
  obtain ⟨gA,oA,rfl⟩:=h4 (by omega);obtain ⟨gB,oB,rfl⟩:=q4 (by omega);have hx:=hl _ (ana g1');have ca:∀ w,Sat b F w→∀ j,j<32→w.cell? ⟨gA,oA+i*32+j,none⟩=(u8s l[i])[j]?:=fun w H j hj=>fb (f:=u8s) (by rw [← re];exact ha w H) (fun a h=>by rw [dr,hl a h]) g1' hj
  have cb:∀ w,Sat b F w→∀ j,j<32→w.cell? ⟨gB,oB+i*32+j,none⟩=(u8s l[i])[j]?:=fun w H j hj=>fb (f:=u8s) (by rw [← re];exact hb w H) (fun a h=>by rw [dr,hl a h]) g1' hj
  generalize l[i]=x at *;refine ak <| ab <| ad <| am <| cn flo _ (by decide +kernel) ax <| ay Z Zl <| ay Z Zl <| cq Z Z ?_;refine ij Z (fun w H=>cg (cs:=u8s x) Z Z Z (by rw [dr,hx];rfl) (fun j hj=>by rw [bq,am6];exact ca w H j (by rw [dr,hx] at hj;exact hj))) Z Z ?_;refine ay Z Zl <| ay Z Zl <| cq Z Z ?_;refine ij Z (fun w H=>cg (cs:=u8s x) Z Z Z (by rw [dr,hx];rfl) (fun j hj=>by rw [bq,am6];exact cb w H j (by rw [dr,hx] at hj;exact hj))) Z Z ?_;refine dM Z (nT (as00:=x) (bs:=x) Z Z hx hx) Z Z ?_;refine cz 29 (.bool true) Z (by simp) ?_;refine ay Z Zl <| aq <| bh <| ab <| aa <| ae Z <| az Z <| ae Z <| ac ?_;refine ly (i+1) ax ?_ ?_
  ·show i+1≤l.length;omega
  ·show l.length - (i+1)<l.length - i;omega
 ·refine bz <| au <| av <| ap <| ab <| akw <| am4 Z Z <| akv <| ai <| ar Z Z ax ?_;exact ⟨rfl,rfl⟩
theorem Dn (h32:e.id.length=32) (he:∀ w,Sat b F w→ER w e):SC Tryz.prog aT [evV e] b F (fun v F'=>∃ q:Bool,(q=false→e.deps.length≤20∧e.refs.length≤300∧e.repo.size≤200∧e.tag.size≤200)∧v = .bool q∧F'=F):=by
 refine aw Tryz.func28 Z Z Z <| bu (fun w H=>(he w H).dv.form) ?_;rintro ⟨A,c,hdv,_,_,_,_⟩;refine bu (fun w H=>cp (he w H).rv) ?_;rintro ⟨A2,c2,hrv,_,_,_,_,_⟩;refine akw <| bx Z Z Z Z Z fun g1=>ae Z <| aan <| ae Z <| bt 0 Z Z Z <| bm 4 (.slice A e.deps.length c) Z hdv <| am5 Z Z Z ?_
 by_cases h1:20<e.deps.length
 ·refine wz 7 Z ?_
  (iterate 18 refine ae Z ?_)
  refine akv <| ai <| ar Z Z (af 1 [] Z) ?_;exact ⟨true,(fun h=>by cases h),rfl,rfl⟩
 refine px 7 Z <| ae Z <| yk 0 Z Z Z Z Z Z (aF h32) Z <| bm 9 (.slice A2 e.refs.length c2) Z hrv <| am5 Z Z Z <| ae Z ?_;by_cases h2:300<e.refs.length
 ·refine wz 13 Z ?_
  (iterate 12 refine ae Z ?_)
  refine akv <| ai <| ar Z Z (af 1 [] Z) ?_;exact ⟨true,(fun h=>by cases h),rfl,rfl⟩
 refine px 13 Z <| ae Z <| bt 0 Z Z Z <| am5 Z Z Z <| ae Z ?_;by_cases h3:200<e.repo.size
 ·refine wz 19 Z ?_
  (iterate 6 refine ae Z ?_)
  refine akv <| ai <| ar Z Z (af 1 [] Z) ?_;exact ⟨true,(fun h=>by cases h),rfl,rfl⟩
 refine px 19 Z <| ae Z <| bt 0 Z Z Z <| am5 Z Z Z <| ae Z <| akv <| ai <| ar Z Z (af 1 [] Z) ?_;exact ⟨_,fun h=>⟨by omega,by omega,by omega,by have:=of_decide_eq_false h;omega⟩,rfl,rfl⟩
end

theorem ajf {e f:Ev} (h:nE e=nE f):∃ dv rv,f=e.own dv rv:=by
 refine ⟨f.dv,f.rv,?_⟩;have h1:f=(nE f).own f.dv f.rv:=rfl;rw [h1,← h];rfl
section
variable {b:World} {F:List SP} {e f:Ev} {l:List Wn}
theorem Yx {l:List Ev} (h:∀ m∈l,m.id.length=32):∀ m∈l,(evC m).length=39:=fun m hm=>di (h m hm)
theorem Aa {l:List Ev} {w:World} {bk off c i j:Nat} (h:EL w (.slice (some ⟨bk,off,none⟩) l.length c) l) (h32:∀ m∈l,m.id.length=32) (hi:i<l.length) (hj:j<39):w.cell? ⟨bk,off+i*39+j,none⟩=(evC l[i])[j]?:=fb h.sl (Yx h32) hi hj
end

section
variable {b:World} {F:List SP}
theorem O0 (l:List (Int × Int)):pQ l=flC (fun d:Int × Int=> [ii d.1,ii d.2]) l:=by
 induction l with
 | nil => rfl
 | cons x l ih => simp only [pQ, flC, ih]; rfl
end

def LE (e:Ev):Prop:=e.deps.length≤20∧e.refs.length≤300∧e.repo.size≤200∧e.tag.size≤200
section
variable {b:World} {F:List SP}
theorem Ad {v:Value} {l:List Ev} {many:Nat} (hl:∀ w,Sat b F w→EL w v l) (h32:∀ e∈l,e.id.length=32) (hm:many≤1000) :
  SC Tryz.prog aB [v,ii many] b F (fun v F'=>∃ q:Bool,(q=false→l.length≤many∧∀ e∈l,LE e)∧v = .bool q∧F'=F):=by
 refine aw Tryz.func5 Z Z Z <| bu (fun w H=>cp (hl w H).sl) ?_;rintro ⟨A,c,rfl,_,_,_,k4,_⟩;refine akw <| ae Z <| aan <| ae Z <| akv <| ad <| akw <| ae Z <| akv <| am <| dt (S:=Nat × Nat) (fun s=> [(0,.slice A l.length c),(1,ii many),(5,ii s.2),(6,ii s.1)]) (fun _=>F) (fun s=>s.1≤l.length∧s.1≤many+1∧s.2≤s.1*300∧∀ k (hk:k<l.length),k<s.1→LE l[k]) (fun s=>l.length - s.1) (0,0) ax ⟨anq _,anq _,anq _,fun k _ h=>absurd h (aqi k)⟩ ?_;rintro ⟨i,r⟩ ⟨i1,i2,i3,i4⟩;dsimp only at i1 i2 i3 i4 ⊢;refine ad <| akw ?_
 (iterate 5 refine ae Z ?_)
 by_cases h1:i<l.length
 ·refine wz 11 Z <| am5 Z Z Z <| ae Z <| akv ?_;refine de Z (fun h2=> ?_) (fun h2=> ?_)
  ·obtain ⟨gg,oo,rfl⟩:=k4 (by omega);have hmem:=ana h1;have hc:∀ w,Sat b F w→∀ j,j<39→w.cell? ⟨gg,oo+i*39+j,none⟩=(evC l[i])[j]?:=fun w H j hj=>Aa (hl w H) h32 h1 hj
   have her:∀ w,Sat b F w→ER w l[i]:=fun w H=>(hl w H).er _ hmem
   have hx32:=h32 _ hmem;have hnext:LE l[i]→∀ k (hk:k<l.length),k<i+1→LE l[k]:=fun h k hk hlt=>by
    by_cases e:k=i
    ·subst e;exact h
    ·exact i4 k hk (by omega)
   generalize l[i]=x at *;refine ak <| ab <| ad <| am <| ad <| akw <| am4 Z Z <| az Z ?_;refine fc Z (fun w H=>cg (cs:=evC x) Z Z Z (di hx32) (fun j hj=>by rw [di hx32] at hj;rw [bq,am6];exact hc w H j hj)) Z ?_;refine bf Z Z Z (Dn hx32 her) ?_;rintro _ _ ⟨q,hq,rfl,rfl⟩;cases q with
   | true =>
    refine akv <| ao Z <| akw <| ae Z <| akv <| ai <| ag <| al <| ag <| cd <| al <| ag <| ar Z Z ax ?_;exact ⟨true,(fun h=>by cases h),rfl,rfl⟩
   | false =>
    have hle:LE x:=hq Z;have hrl:=hle.2.1;refine akv <| aj Z <| ak <| ab <| aa <| am5 Z Z Z <| az Z <| ae Z ?_;refine fc Z (fun w H=>br Z Z Z (by rw [bq,am6];exact (hc w H 38 (by omega)).trans (by rw [← lw];exact aF hx32))) Z ?_;refine b9 (fun w H=>cp (her w H).rv) ?_;rintro ⟨A2,c2,hrv,_,_,_,_,_⟩;refine bm 28 (.slice A2 x.refs.length c2) Z hrv <| ae Z <| az Z <| ae Z <| ac <| bh <| ab <| aa <| ae Z <| az Z <| ae Z <| ac ?_;refine lC (i+1,r+x.refs.length) ⟨rfl,rfl,by simp only [kh];exact am7 some (am7 (Value.int .i64) (by omega)),rfl,trivial⟩ ax ⟨h1,by dsimp only;omega,by dsimp only;omega,hnext hle⟩ (by dsimp only;omega)
  ·refine bz <| au <| av <| ap <| ab <| akw ?_
   (iterate 5 refine ae Z ?_)
   refine wz 35 Z <| am5 Z Z Z <| ae Z <| akv <| ai <| ar Z Z ax ?_;exact ⟨true,(fun h=>by cases h),rfl,rfl⟩
 ·refine px 11 Z <| am5 Z Z Z <| ae Z <| akv <| aj Z <| bz <| au <| av <| ap <| ab <| akw ?_
  (iterate 5 refine ae Z ?_)
  by_cases h2:l.length≤many
  ·refine px 35 Z <| am5 Z Z Z <| ae Z <| akv <| ai <| ar Z Z ax <| ⟨_,fun _=>⟨h2,fun e he=> ?_⟩,rfl,rfl⟩;obtain ⟨k,hk,rfl⟩:=ao0.1 he;exact i4 k hk (by omega)
  ·refine wz 35 Z <| am5 Z Z Z <| ae Z <| akv <| ai <| ar Z Z ax ?_;exact ⟨true,(fun h=>by cases h),rfl,rfl⟩
end
open Go

theorem lK {α β:Type} {g:α→β} {f:β→List Value}:∀ {ess:List (List Value)} {xs:List α},ess.length=xs.length→(∀ (i:Nat) e a,ess[i]? = some e→xs[i]? = some a→e=f (g a))→ess.flatten=flC f (xs.map g)
 | [], [], _, _ => rfl
 | [], _ :: _, h, _ => by simp at h
 | _ :: _, [], h, _ => by simp at h
 | e :: ess, a :: xs, h, hh => by
  rw [aqh,hh 0 e a Z rfl,lK (by simpa using h) fun i e a h1 h2=>hh (i+1) e a h1 h2];rfl
theorem eN {α β:Type} {R:Rdg α} {g:α→β} {f:β→List Value} {p:β→Prop} {W:World} (hR:∀ cs x,R W cs x→cs=f (g x)∧p (g x)) {sz:Nat} {cs:List Value} {x:Value × List α} (h:rdL sz R W cs x):cs = [x.1]∧SL W sz x.1 (x.2.map g).length (flC f (x.2.map g))∧∀ y∈x.2.map g,p y:=by
 obtain ⟨hv,ess,e1,e2,e3,e4⟩:=h;have hf:=lK (f:=f) (g:=g) e1 fun i e a h1 h2=>(hR e a (e4 i e a h1 h2)).1
 rw [hf] at e3;refine ⟨hv,by rw [anf];exact e3,fun y hy=> ?_⟩;obtain ⟨a,ha,rfl⟩:=anb.1 hy;obtain ⟨i,hi,rfl⟩:=ao0.1 ha;exact (hR _ _ (e4 i _ _ (am8 (by omega)) (am8 hi))).2
theorem Cl {W:World} {k:IntKind} {cs:List Value} {x:Value × List Int} (h:rdL 1 (rdI k) W cs x):cs = [x.1]∧VL (Value.int k) W x.1 x.2∧∀ n∈x.2,(Lit.int k n).wf=true:=by
 obtain ⟨h1,h2,h3⟩:=eN (g:=id) (f:=fun n=> [Value.int k n]) (p:=fun n=>(Lit.int k n).wf=true) (fun cs x hx=>⟨hx.1,hx.2⟩) h;rw [List.map_id] at h2 h3;have e:∀ l:List Int,flC (fun x:Int=> [Value.int k x]) l=l.map (Value.int k):=fun l=>by
  induction l with
  | nil => rfl
  | cons x l ih => simp only [flC, ih]; rfl
 rw [e] at h2;exact ⟨h1,h2,h3⟩
theorem Lj {W:World} {cs:List Value} {x:Value × List (List Int)} (h:rdL 32 (Go.Eng.rdA 32 .u8) W cs x):cs = [x.1]∧SL W 32 x.1 x.2.length (ig x.2)∧∀ y∈x.2,idOk y:=by
 obtain ⟨h1,h2,h3⟩:=eN (g:=id) (f:=u8s) (p:=idOk) (fun cs x hx=>⟨hx.1,hx.2⟩) h;rw [List.map_id] at h2 h3;rw [re];exact ⟨h1,h2,h3⟩
abbrev ajg:Rdg ((Int × Int) × (Value × List Int) × Int × ByteArray × ByteArray × List Int × (Value × List (List Int))) :=
 rdN 2 (rdN 1 (rdI .i64) (rdI .i64)) (rdN 1 (rdL 1 (rdI .i64)) (rdN 1 (rdI .i64) (rdN 1 rdS (rdN 1 rdS (rdN 32 (Go.Eng.rdA 32 .u8) (rdL 32 (Go.Eng.rdA 32 .u8)))))))
def Te (x:(Int × Int) × (Value × List Int) × Int × ByteArray × ByteArray × List Int × (Value × List (List Int))):Ev :=
 ⟨x.1.1,x.1.2,x.2.1.1,x.2.1.2,x.2.2.1,x.2.2.2.1,x.2.2.2.2.1,x.2.2.2.2.2.1,x.2.2.2.2.2.2.1,x.2.2.2.2.2.2.2⟩
theorem Gd {x:Int} (h:(Lit.int .i64 x).wf=true):I64 x:=(jA x).1 h
theorem eO {n:Nat} {cs a c:List Value} (h1:cs.take n=a) (h2:cs.drop n=c):cs=a++c:=by rw [← h1,← h2,an9]
theorem O1 {W:World} {cs:List Value} {x} (h:ajg W cs x):cs=evC (Te x)∧EW (Te x)∧ER W (Te x):=by
 obtain ⟨h1,h2,h3,h4,h5,h6,h7⟩:=h;obtain ⟨⟨a1,a2⟩,a3,a4⟩:=h1;obtain ⟨b1,b2,b3⟩:=Cl h2;obtain ⟨c1,c2⟩:=h3;obtain ⟨d1,d2⟩:=h4;obtain ⟨e1,e2⟩:=h5;obtain ⟨f1,f2,f3⟩:=h6;obtain ⟨g1,g2,g3⟩:=Lj h7;refine ⟨?_,⟨⟨f2,f3⟩,⟨a2,a4⟩,g3,Gd c2,fun y hy=>Gd (b3 y hy),d2,e2⟩,⟨b2,g2⟩⟩;exact eO (eO a1 a3) (eO b1 (eO c1 (eO d1 (eO e1 (eO f1 g1)))))
structure EAs (W:World) (v:Value) (l:List Ev):Prop where
 el:EL W v l
 ew:∀ e∈l,EW e
theorem O2 {W:World} {v:Value} {x:Value × List _} (h:rdL 39 ajg W [v] x):EAs W v (x.2.map Te):=by
 obtain ⟨h1,h2,h3⟩:=eN (p:=fun e=>EW e∧ER W e) (fun cs x hx=>O1 hx) h;simp only [apf,aq7] at h1;subst h1;exact ⟨⟨h2,fun m hm=>(h3 m hm).2⟩,fun m hm=>(h3 m hm).1⟩
theorem ER.ext {w w':World} {e:Ev} (h:ER w e) (x:Ext w w'):ER w' e:=⟨h.dv.ext x,h.rv.ext x⟩
theorem EL.ext {w w':World} {v:Value} {l:List Ev} (h:EL w v l) (x:Ext w w'):EL w' v l:=⟨h.sl.ext x,fun m hm=>(h.er m hm).ext x⟩

def iX (c:Int):Bool:=(decide (97≤c)&&decide (c≤122)) || (decide (48≤c)&&decide (c≤57))
theorem y6 {c:Int}:iX c=true↔(97≤c∧c≤122)∨(48≤c∧c≤57):=by simp [iX]
inductive RK | word | inside | second | dashes
 deriving DecidableEq
abbrev RQ:=RK × Nat
def fV (n:Nat) (c:Int):Option RQ:=if iX c=true then some (.inside,n) else none
def ji:RQ→Int→Option RQ
 | (.word, n), c => fV n c
 | (.inside, n), c => if c = 47 ∧ 0 < n then some (.word, n - 1) else if c = 46 then some (.word, n) else if c = 95 then some (.second, n) else if c = 45 then some (.dashes, n) else fV n c
 | (.second, n), c => if c = 95 then some (.word, n) else fV n c
 | (.dashes, n), c => if c = 45 then some (.dashes, n) else fV n c
theorem zw {n:Nat} {c:Int} {q:RQ} (h:fV n c=some q):0≤c∧c<128:=by
 unfold fV at h
 split at h
 ·rename_i hl;have:=y6.1 hl;omega
 ·cases h
theorem fW {q q':RQ} {c:Int} (h:ji q c=some q'):0≤c∧c<128:=by
 obtain ⟨k,n⟩:=q;cases k <;> simp only [ji] at h
 ·exact zw h
 ·split at h
  ·omega
  ·split at h
   ·omega
   ·split at h
    ·omega
    ·split at h
     ·omega
     ·exact zw h
 ·split at h
  ·omega
  ·exact zw h
 ·split at h
  ·omega
  ·exact zw h

def xj (L:List Int):Int:=L.getLast?.getD 47
def kH (L:List Int):Int:=L.dropLast.getLast?.getD 47
def zx (L:List Int):Nat:=L.countP (fun c=>decide (c=47))
theorem r8 (L:List Int) (c:Int):xj (L ++ [c])=c:=by simp [xj]
theorem pR (L:List Int) (c:Int):kH (L ++ [c])=xj L:=by simp [xj,kH]
theorem Ae (L:List Int) (c:Int):zx (L ++ [c])=zx L+(if c=47 then 1 else 0):=by
 simp only [zx,List.countP_append,List.countP_cons,List.countP_nil,aoy,aob]
def jH (L:List Int) (c:Int):Bool :=
 if iX c=true then true
 else if xj L=47∨xj L=46 then false
 else if iX (xj L)=true then decide (c=46∨c=95∨c=45∨c=47)
 else if xj L=95 then decide (c=95∧kH L≠95)
 else decide (c=45)
def Do (L:List Int) (q:RQ):Prop:=q.2+zx L=7∧match q.1 with
 | .word => xj L = 47 ∨ xj L = 46 ∨ (xj L = 95 ∧ kH L = 95)
 | .inside => iX (xj L) = true
 | .second => xj L = 95 ∧ kH L ≠ 95
 | .dashes => xj L = 45
theorem O3:Do [] (.word,7):=⟨rfl,.inl rfl⟩
theorem Do.ends {L:List Int} {q:RQ} (h:Do L q):decide (q.1 = .inside)=iX (xj L):=by
 obtain ⟨k,n⟩:=q;obtain ⟨_,h⟩:=h;cases k <;> simp only at h
 ·rcases h with h | h | ⟨h,_⟩ <;> rw [h] <;> rfl
 ·rw [h];rfl
 ·rw [h.1];rfl
 ·rw [h];rfl
theorem Do.step {L:List Int} {q:RQ} (h:Do L q) (c:Int) :
  (ji q c).isSome=(jH L c&&decide (1+zx (L ++ [c])≤8))∧∀ q',ji q c=some q'→Do (L ++ [c]) q':=by
 obtain ⟨k,n⟩:=q;obtain ⟨hn,h⟩:=h;simp only at hn h;have hs:=Ae L c;by_cases hl:iX c=true
 ·have hc:=y6.1 hl;have e47:c≠47:=by omega
  have hw:ji (k,n) c=some (.inside,n):=by
   cases k <;> simp only [ji,fV,if_pos hl]
   ·rw [if_neg (by omega),if_neg (by omega),if_neg (by omega),if_neg (by omega)]
   ·rw [if_neg (by omega)]
   ·rw [if_neg (by omega)]
  rw [hw];refine ⟨?_,?_⟩
  ·rw [hs,if_neg e47];simp only [jH,if_pos hl,Option.isSome_some,arj];exact (ani (by omega)).symm
  ·rintro q' he;cases he;refine ⟨?_,?_⟩
   ·simp only [hs,if_neg e47];omega
   ·simp only [r8];exact hl
 ·have hw:∀ n,fV n c=none:=fun n=>by simp only [fV,if_neg hl]
  have hnl:∀ {x:Int},x=47∨x=46∨x=95∨x=45→iX x=false:=by
   rintro x (rfl | rfl | rfl | rfl) <;> decide
  cases k
  ·simp only [ji,hw];refine ⟨?_,fun q' he=>by cases he⟩;have:jH L c=false:=by
    simp only [jH,if_neg hl];rcases h with h | h | ⟨h,h'⟩
    ·rw [if_pos (.inl h)]
    ·rw [if_pos (.inr h)]
    ·rw [if_neg (by omega),if_neg (by rw [hnl (.inr (.inr (.inl h)))];simp),if_pos h];simp [h']
   rw [this];rfl
  ·simp only at h;have hb:jH L c=decide (c=46∨c=95∨c=45∨c=47):=by
    simp only [jH,if_neg hl];rw [if_neg (by
     rintro (e | e)
     ·rw [hnl (.inl e)] at h;cases h
     ·rw [hnl (.inr (.inl e))] at h;cases h),if_pos h]
   rw [hb];simp only [ji,hw];by_cases e1:c=47
   ·subst e1;rw [if_pos rfl] at hs;by_cases h0:0<n
    ·rw [if_pos ⟨rfl,h0⟩];refine ⟨?_,?_⟩
     ·rw [ani (show 1+zx (L ++ [47])≤8 by omega)];rfl
     ·rintro q' he;cases he;exact ⟨by simp only [hs];omega,by simp only [r8];exact .inl trivial⟩
    ·rw [if_neg (by omega),if_neg (by omega),if_neg (by omega),if_neg (by omega)];refine ⟨?_,fun q' he=>by cases he⟩;rw [ans (show ¬ (1+zx (L ++ [47])≤8) by omega),Bool.and_false];rfl
   ·rw [if_neg (by omega)];rw [if_neg e1] at hs;have hd:decide (1+zx (L ++ [c])≤8)=true:=ani (by omega);rw [hd,Bool.and_true];by_cases e2:c=46
    ·subst e2;rw [if_pos rfl];refine ⟨rfl,?_⟩;rintro q' he;cases he;exact ⟨by simp only [hs];omega,by simp only [r8];exact .inr (.inl trivial)⟩
    ·rw [if_neg e2];by_cases e3:c=95
     ·subst e3;rw [if_pos rfl];refine ⟨rfl,?_⟩;rintro q' he;cases he;refine ⟨by simp only [hs];omega,?_⟩;simp only [r8,pR];exact ⟨trivial,fun e=>by rw [e] at h;exact absurd h (by decide)⟩
     ·rw [if_neg e3];by_cases e4:c=45
      ·subst e4;rw [if_pos rfl];refine ⟨rfl,?_⟩;rintro q' he;cases he;exact ⟨by simp only [hs];omega,by simp only [r8]⟩
      ·rw [if_neg e4];exact ⟨(ans (by omega)).symm,fun q' he=>by cases he⟩
  ·obtain ⟨h1,h2⟩:=h;have hb:jH L c=decide (c=95∧kH L≠95):=by
    simp only [jH,if_neg hl];rw [if_neg (by omega),if_neg (by rw [hnl (.inr (.inr (.inl h1)))];simp),if_pos h1]
   rw [hb];simp only [ji,hw];by_cases e3:c=95
   ·subst e3;rw [if_neg (by decide)] at hs;rw [if_pos rfl];refine ⟨?_,?_⟩
    ·rw [ani (⟨rfl,h2⟩:(95:Int)=95∧kH L≠95)];simp;omega
    ·rintro q' he;cases he;refine ⟨by simp only [hs];omega,?_⟩;simp only [r8,pR];exact .inr (.inr ⟨trivial,h1⟩)
   ·rw [if_neg e3];refine ⟨?_,fun q' he=>by cases he⟩;rw [ans (by omega)];rfl
  ·simp only at h;have hb:jH L c=decide (c=45):=by
    simp only [jH,if_neg hl];rw [if_neg (by omega),if_neg (by rw [hnl (.inr (.inr (.inr h)))];simp),if_neg (by omega)]
   rw [hb];simp only [ji,hw];by_cases e4:c=45
   ·subst e4;rw [if_neg (by decide)] at hs;rw [if_pos rfl];refine ⟨?_,?_⟩
    ·simp;omega
    ·rintro q' he;cases he;exact ⟨by simp only [hs];omega,by simp only [r8]⟩
   ·rw [if_neg e4];refine ⟨?_,fun q' he=>by cases he⟩;rw [ans e4];rfl
def tj:List Int→Option RQ:=List.foldlM ji (.word,7)
theorem tU (L:List Int) (c:Int):tj (L ++ [c])=(tj L).bind (ji · c):=by
 simp only [tj,List.foldlM_append,List.foldlM_cons,List.foldlM_nil];cases L.foldlM ji (RK.word,7) with
 | none => rfl
 | some q => simp only [Option.bind_eq_bind, Option.bind_some]; cases ji q c <;> rfl
theorem xR {L:List Int} {q:RQ} (h:tj L=some q):Do L q:=by
 have key:∀ (n:Nat) (L:List Int) (q:RQ),L.length=n→tj L=some q→Do L q:=by
  intro n
  induction n with
  | zero =>
   intro L q hn h;have:L = []:=an3 hn;subst this;cases h;exact O3
  | succ n ih =>
   intro L q hn h;rcases ap2 L with rfl | ⟨L',c,rfl⟩
   ·cases hn
   rw [ap0] at h hn ⊢;rw [tU] at h;cases hL:tj L' with
   | none => rw [hL] at h; cases h
   | some p => rw [hL] at h; exact ((ih L' p (by simpa using hn) hL).step c).2 q h
 exact key _ L q Z h
theorem tV {L:List Int} {p k:Nat} {q:RQ} (h:tj (L.take p)=some q) (hk:k≤p):∃ q',tj (L.take k)=some q':=by
 rw [show p=k+(p - k) by omega,List.take_add] at h;simp only [tj,List.foldlM_append] at h ⊢;cases hf:List.foldlM ji (RK.word,7) (L.take k) with
 | none => rw [hf] at h; cases h
 | some q' => exact ⟨q', rfl⟩
def Dp (L:List Int):Option Nat:=(List.range L.length).find? fun p=>(tj (L.take (p+1))).isNone
theorem dP {L:List Int} {p:Nat} (hp:p<L.length):tj (L.take (p+1))=(tj (L.take p)).bind (ji · L[p]):=by
 rw [ang hp,tU]
theorem G6 {L:List Int} {p:Nat} {q:RQ} (hp:p<L.length) (h:tj (L.take p)=some q) (h2:ji q L[p]=none):Dp L=some p:=by
 unfold Dp;rw [List.find?_range_eq_some];refine ⟨?_,by simpa using hp,fun k hk=> ?_⟩
 ·rw [dP hp,h];simp [h2]
 ·obtain ⟨q',hq⟩:=tV h (show k+1≤p by omega);rw [hq];rfl
theorem G7 {L:List Int} {q:RQ} (h:tj L=some q):Dp L=none:=by
 unfold Dp;rw [List.find?_eq_none];intro k hk;have h':tj (L.take L.length)=some q:=by rw [an7];exact h
 obtain ⟨q',hq⟩:=tV h' (show k+1≤L.length by have:=aoa.1 hk;omega);rw [hq];simp
def mo (L:List Int):Int × Int:=if 128<L.length then (4,128) else match Dp L with
 | some p => (7, p)
 | none => if iX (xj L) = true then (0, 0) else (7, L.length)
theorem G8 {L:List Int} (h:128<L.length):mo L=(4,128):=if_pos h
theorem Lk {L:List Int} {p:Nat} {q:RQ} (hl:¬ 128<L.length) (hp:p<L.length) (h:tj (L.take p)=some q) (h2:ji q L[p]=none):mo L=(7,(p:Int)):=by
 unfold mo;rw [if_neg hl,G6 hp h h2]
theorem Ll {L:List Int} {q:RQ} (hl:¬ 128<L.length) (h:tj L=some q):mo L=if q.1 = .inside then (0,0) else (7,(L.length:Int)):=by
 unfold mo;rw [if_neg hl,G7 h];have:=(xR h).ends;by_cases hq:q.1 = .inside
 ·rw [if_pos hq];rw [ani hq] at this;simp only [← this,aq6]
 ·rw [if_neg hq];rw [ans hq] at this;simp only [← this];rfl
theorem qR {s:ByteArray} {p:Nat} (hp:p<s.size) (hl:p<(fe s).length):(fe s)[p]=((s[p]'hp).toNat:Int):=by
 simp only [fe,aox,Array.getElem_toList]
 rfl
theorem Lm {s:ByteArray} {p:Nat} (hp:p<s.size) (hl:p<(fe s).length) (q:RQ):ji q ((Utf8.decode s p).1:Int)=ji q (fe s)[p]:=by
 rw [qR hp hl];by_cases h:(s[p]'hp).toNat<128
 ·rw [Go.decode_ascii s p hp h]
 ·have h1:=(Go.decode_high s p hp (by omega)).1;cases e1:ji q ((Utf8.decode s p).1:Int) with
  | some q' => have := fW e1; omega
  | none =>
   cases e2:ji q ((s[p]'hp).toNat:Int) with
   | some q' => have := fW e2; omega
   | none => rfl
theorem O4 {s:ByteArray} {p:Nat} (hp:p<s.size) (hl:p<(fe s).length) {q q':RQ} (h:ji q (fe s)[p]=some q'):Utf8.decode s p=((s[p]'hp).toNat,1):=by
 rw [qR hp hl] at h;have:=fW h;exact Go.decode_ascii s p hp (by omega)

def nxF:RK→Nat
 | .word => bG
 | .inside => yy
 | .second => yz
 | .dashes => y0
abbrev rpV (n:Nat):Value:= .agg ⟨[ii n]⟩
def stN (q:RQ):List Value:= [.func (.func (nxF q.1)) ⟨[rpV q.2]⟩ ⟨[]⟩,.bool (decide (q.1 = .inside))]
abbrev pN (g:Nat) (q:RQ):SP:=pt g cU (stN q)
section
variable {b:World} {F:List SP}
theorem I3 {c:Int}:SC Tryz.prog kB [.int .i32 c] b F (fun v F'=>v = .bool (iX c)∧F'=F):=by
 refine aw Tryz.func255 Z Z Z <| akw <| ae Z <| aan <| am5 Z Z Z ?_;refine np 5 Z (fun h1=> ?_) (fun h1=> ?_)
 ·refine am5 Z Z Z <| ae Z ?_;refine np 9 Z (fun h2=> ?_) (fun h2=> ?_)
  ·(iterate 8 refine ae Z ?_)
   refine akv <| ai <| ar Z Z ax ?_;exact ⟨am7 Value.bool (by rw [y6.2 (by omega)]),rfl⟩
  ·refine am5 Z Z Z ?_;refine np 12 Z (fun h3=> ?_) (fun h3=> ?_)
   ·(iterate 5 refine ae Z ?_)
    refine akv <| ai <| ar Z Z ax ?_;exact ⟨am7 Value.bool (by rw [apw,y6];simp only [aoy,reduceCtorEq,false_iff];omega),rfl⟩
   ·omega
 ·(iterate 7 refine ae Z ?_)
  refine np 12 Z (fun h3=> ?_) (fun h3=> ?_)
  ·(iterate 5 refine ae Z ?_)
   refine akv <| ai <| ar Z Z ax ?_;exact ⟨am7 Value.bool (by rw [apw,y6];simp only [aoy,reduceCtorEq,false_iff];omega),rfl⟩
  ·(iterate 5 refine ae Z ?_)
   refine akv <| ai <| ar Z Z ax ?_;exact ⟨am7 Value.bool (by rw [apw,y6];simp only [aoy,reduceCtorEq,false_iff];omega),rfl⟩
theorem I4 {n:Nat} {x:Int} (hx:x=n):SC Tryz.prog oF [.agg ⟨[ii x]⟩] b F (fun v F'=>∃ g,v=pp g∧F'=pN g (.word,n)::F):=by
 subst hx;refine aw Tryz.func188 Z Z Z <| akw <| bx Z Z Z Z Z fun g1=>ae Z <| aan <| bt 0 Z Z Z <| am4 Z Z <| bx Z Z Z Z Z fun g2=>ae Z <| akv <| ai <| ar Z Z (af 2 [0] Z) ?_
 exact ⟨g2,rfl,rfl⟩
def NxR (F:List SP) (o:Option RQ) (v:Value) (F':List SP):Prop:=match o with
 | some q => ∃ g, v = pp g ∧ F' = pN g q :: F
 | none => v = .pointer none ∧ F' = F
theorem fX {n:Nat} {c:Int}:SC Tryz.prog bG [rpV n,.int .i32 c] b F (NxR F (ji (.word,n) c)):=by
 refine aw Tryz.func254 Z Z Z <| akw <| bx Z Z Z Z Z fun g1=>ae Z <| akv <| ad <| akw <| ae Z <| bg Z Z Z (I3) <| akv ?_
 by_cases h:iX c=true
 ·simp only [h];refine ao Z <| akw <| bt 0 Z Z Z <| am4 Z Z <| bx Z Z Z Z Z fun g2=>ae Z <| akv <| ai <| ag <| ar Z Z (af 2 [0] Z) ?_
  simp only [ji,fV,if_pos h];exact ⟨g2,rfl,rfl⟩
 ·have h':iX c=false:=by simpa using h
  simp only [h'];refine aj Z <| ak <| ab <| akw <| ae Z <| akv <| ai <| ar Z Z (af 1 [] Z) ?_;simp only [ji,fV,if_neg h];exact ⟨rfl,rfl⟩
theorem NxR.drop {A:SP} {F:List SP} {o:Option RQ} {v:Value} {F':List SP} (h:NxR (A::F) o v F'):∃ G,Ent F' G∧NxR F o v G:=by
 cases o with
 | none => obtain ⟨h1, rfl⟩ := h; exact ⟨F, af 1 [] rfl, h1, rfl⟩
 | some q => obtain ⟨g, h1, rfl⟩ := h; exact ⟨pN g q :: F, af 2 [0] rfl, g, h1, rfl⟩
theorem Ln {n:Nat} {c:Int}:SC Tryz.prog yz [rpV n,.int .i32 c] b F (NxR F (ji (.second,n) c)):=by
 refine aw Tryz.func319 Z Z Z <| akw <| bx Z Z Z Z Z fun g1=>ae Z <| akv <| ad <| akw <| am4 Z Z <| akv ?_
 refine de Z (fun h=> ?_) (fun h=> ?_)
 ·refine akw <| bt 0 Z Z Z <| am4 Z Z <| bx Z Z Z Z Z fun g2=>ae Z <| akv <| ai <| ag <| ar Z Z (af 2 [0] Z) ?_
  simp only [ji,if_pos h];exact ⟨g2,rfl,rfl⟩
 ·refine ak <| ab <| akw <| bt 0 Z Z Z <| ae Z <| bf Z Z Z (fX) ?_;rintro v F' hR;obtain ⟨G,hG,hR'⟩:=hR.drop;refine ae Z <| akv <| ai <| ar Z Z (hG) ?_;simp only [ji,if_neg h];exact hR'
theorem Lo {n:Nat} {c:Int}:SC Tryz.prog y0 [rpV n,.int .i32 c] b F (NxR F (ji (.dashes,n) c)):=by
 refine aw Tryz.func320 Z Z Z <| akw <| bx Z Z Z Z Z fun g1=>ae Z <| akv <| ad <| akw <| am4 Z Z <| akv ?_
 refine de Z (fun h=> ?_) (fun h=> ?_)
 ·refine akw <| bt 0 Z Z Z <| am4 Z Z <| bx Z Z Z Z Z fun g2=>ae Z <| akv <| ai <| ag <| ar Z Z (af 2 [0] Z) ?_
  simp only [ji,if_pos h];exact ⟨g2,rfl,rfl⟩
 ·refine ak <| ab <| akw <| bt 0 Z Z Z <| ae Z <| bf Z Z Z (fX) ?_;rintro v F' hR;obtain ⟨G,hG,hR'⟩:=hR.drop;refine ae Z <| akv <| ai <| ar Z Z (hG) ?_;simp only [ji,if_neg h];exact hR'
theorem Lp {n:Nat} {c:Int} (h7:n≤7):SC Tryz.prog yy [rpV n,.int .i32 c] b F (NxR F (ji (.inside,n) c)):=by
 refine aw Tryz.func294 Z Z Z <| akw <| bx Z Z Z Z Z fun g1=>ae Z <| akv <| ad <| am <| akw <| am5 Z Z Z ?_
 refine np 8 Z (fun h1=> ?_) (fun h1=> ?_)
 ·refine ae Z <| bt 0 Z Z Z <| am5 Z Z Z <| akv ?_;refine de Z (fun h2=> ?_) (fun h2=> ?_)
  ·refine akw <| ae Z <| bt 0 Z Z Z <| az Z <| ae Z ?_;have hn:0<n:=by omega
   refine bf Z Z Z (I4 (n:=n - 1) (by omega)) ?_;rintro v F' ⟨g,rfl,rfl⟩;refine ae Z <| akv <| ai <| al <| ag <| ar Z Z (af 2 [0] Z) ?_;simp only [ji,if_pos (⟨h1,hn⟩:c=47∧0<n)];exact ⟨g,rfl,rfl⟩
  ·have hn:¬ (c=47∧0<n):=by omega
   refine akw <| am5 Z Z Z <| akv <| de Z (fun h=>absurd h (by omega)) (fun h3=>akw <| am5 Z Z Z <| akv <| de Z (fun h=>absurd h (by omega)) (fun h4=>akw <| am5 Z Z Z <| akv <| de Z (fun h=>absurd h (by omega)) (fun h5=>ak <| bh <| ab <| akw <| bt 0 Z Z Z <| ae Z <| bf Z Z Z (fX) ?_)));rintro v F' hR;obtain ⟨G,hG,hR'⟩:=hR.drop;refine ae Z <| akv <| ai <| ar Z Z (hG) ?_;simp only [ji,if_neg hn,if_neg h3,if_neg h4,if_neg h5];exact hR'
 ·have hn:¬ (c=47∧0<n):=by omega
  (iterate 5 refine ae Z ?_)
  refine akv <| aj Z <| akw <| am5 Z Z Z <| akv ?_;refine de Z (fun h3=> ?_) (fun h3=> ?_)
  ·refine akw <| bt 0 Z Z Z <| am4 Z Z <| bx Z Z Z Z Z fun g2=>ae Z <| akv <| ai <| al <| ag <| ar Z Z (af 2 [0] Z) ?_
   simp only [ji,if_neg hn,if_pos h3];exact ⟨g2,rfl,rfl⟩
  refine akw <| am5 Z Z Z <| akv ?_;refine de Z (fun h4=> ?_) (fun h4=> ?_)
  ·refine akw <| bt 0 Z Z Z <| am4 Z Z <| bx Z Z Z Z Z fun g2=>ae Z <| akv <| ai <| al <| ag <| ar Z Z (af 2 [0] Z) ?_
   simp only [ji,if_neg hn,if_neg h3,if_pos h4];exact ⟨g2,rfl,rfl⟩
  refine akw <| am5 Z Z Z <| akv ?_;refine de Z (fun h5=> ?_) (fun h5=> ?_)
  ·refine akw <| bt 0 Z Z Z <| am4 Z Z <| bx Z Z Z Z Z fun g2=>ae Z <| akv <| ai <| al <| ag <| ar Z Z (af 2 [0] Z) ?_
   simp only [ji,if_neg hn,if_neg h3,if_neg h4,if_pos h5];exact ⟨g2,rfl,rfl⟩
  refine ak <| bh <| ab <| akw <| bt 0 Z Z Z <| ae Z <| bf Z Z Z (fX) ?_;rintro v F' hR;obtain ⟨G,hG,hR'⟩:=hR.drop;refine ae Z <| akv <| ai <| ar Z Z (hG) ?_;simp only [ji,if_neg hn,if_neg h3,if_neg h4,if_neg h5];exact hR'
theorem amv {q:RQ} {c:Int} (h7:q.2≤7):SC Tryz.prog (nxF q.1) [rpV q.2,.int .i32 c] b F (NxR F (ji q c)):=by
 obtain ⟨k,n⟩:=q;cases k
 ·exact fX
 ·exact Lp h7
 ·exact Ln
 ·exact Lo
instance nx_bodied (q:RQ):Bodied Tryz.prog (nxF q.1):=by
 obtain ⟨k,n⟩:=q;cases k <;> (dsimp only [nxF];infer_instance)
end

abbrev ftV (f:Int × Int):Value:= .agg ⟨[ii f.1,ii f.2]⟩
section
variable {b:World} {F:List SP}
theorem Yy {s:ByteArray} {g:Nat} (hl:¬ 128<(fe s).length):SC Tryz.prog sR [.string s,pp g,ii 7] b (pN g (.word,7)::F) (fun v F'=>v=ftV (mo (fe s))∧F'=F):=by
 have hsz:=sf s;refine aw Tryz.func187 Z Z Z <| akw <| db Z Z Z Z Z fun g6=>akv <| ad <| akw <| ae Z <| xH Z Z Z Z Z Z fun gi=>akv <| am ?_
 refine dt (S:=Nat × RQ × Nat) (fun s'=> [(0,.string s),(1,pp s'.2.2),(2,ii 7),(6,pp g6),(10,pp gi)]) (fun s'=>ob gi (.stringIter s s'.1)::pN s'.2.2 s'.2.1::pt g6 t_api_Fault [ii 0,ii 0]::F)
  (fun s'=>s'.1≤s.size∧tj ((fe s).take s'.1)=some s'.2.1) (fun s'=>s.size - s'.1) (0,(.word,7),g) (af 3 [0,2,1] Z) ⟨anq _,rfl⟩ ?_
 rintro ⟨p,q,gq⟩ ⟨hp,hq⟩;dsimp only at hp hq ⊢;refine akw ?_;by_cases hlt:p<s.size
 ·have hpl:p<(fe s).length:=by omega
  have h7:q.2≤7:=by have:=(xR hq).1;omega
  have hstep:=Lm hlt hpl q;refine Cj 0 Z Z Z Z Z hlt Z <| ae Z <| akv <| ad <| ao Z <| ak <| ab <| am <| akw <| am5 Z Z Z <| ae Z <| aan <| am5 Z Z Z <| bt 1 Z Z Z <| ae Z <| bf Z Z Z (amv h7) ?_;rintro v F' hR;rw [hstep] at hR;cases hr:ji q (fe s)[p] with
  | none =>
   rw [hr] at hR;obtain ⟨rfl,rfl⟩:=hR;refine ae Z <| aan <| am4 Z Z <| akv <| ao Z <| akw <| am5 Z Z Z <| eu 2 Z Z Z Z <| akv <| ai <| al <| cd <| al <| ag <| fw Z (.agg 2 Z Z Z Z Z .nil) (af 3 [] Z) ?_;exact ⟨by rw [Lk hl hpl hq hr];rfl,rfl⟩
  | some q' =>
   rw [hr] at hR;obtain ⟨g',rfl,rfl⟩:=hR;have h1:=O4 hlt hpl hr;refine ae Z <| aan <| am4 Z Z <| akv <| aj Z <| ak <| bh ?_;refine cw (p+1,q',g') ?_ ⟨hlt,?_⟩
   ·rw [h1];exact af 4 [1,0,3] Z
   ·rw [dP hpl,hq];exact hr
 ·refine xI 0 Z Z Z Z Z (by omega) ?_;have hq':tj (fe s)=some q:=by rw [← hq,an1 (by omega)]
  have he:=Ll hl hq';refine ae Z <| akv <| ad <| aj Z <| bz <| au <| av <| ap <| ab <| ad <| akw <| am5 Z Z Z <| bt 1 Z Z Z <| ae Z <| akv ?_;by_cases hin:q.1 = .inside
  ·refine ik 30 (.bool false) Z (by simp [hin]) ?_;refine aj Z <| ak <| ab <| akw <| ae Z <| eu 2 Z Z Z Z <| akv <| ai <| fw Z (.agg 2 Z Z Z Z Z .nil) (af 3 [] Z) ?_;exact ⟨by rw [he,if_pos hin];rfl,rfl⟩
  ·refine ik 30 (.bool true) Z (by simp [hin]) ?_;refine ao Z <| akw <| am5 Z Z Z <| ae Z <| eu 2 Z Z Z Z <| akv <| ai <| ag <| fw Z (.agg 2 Z Z Z Z Z .nil) (af 3 [] Z) ?_;exact ⟨by rw [he,if_neg hin,hsz];rfl,rfl⟩
theorem I5 {s:ByteArray} {m:Int}:SC Tryz.prog Cw [.string s,ii m] b F (fun v F'=>(if m<s.size then v = .tuple ⟨[ftV (4,m),.bool true]⟩ else v = .tuple ⟨[ftV (0,0),.bool false]⟩)∧F'=F):=by
 refine aw Tryz.func186 Z Z Z <| akw <| db Z Z Z Z Z fun g4=>ae Z <| akv <| ad <| akw <| am5 Z Z Z <| ae Z <| akv ?_
 refine de Z (fun h=> ?_) (fun h=> ?_)
 ·refine akw <| am4 Z Z <| eu 0 Z Z Z Z <| ae Z <| akv <| ai <| ag <| fw Z (.agg 0 Z Z Z Z Z (.tmp Z .nil)) (af 1 [] Z) ?_;exact ⟨by rw [if_pos (by omega)];rfl,rfl⟩
 ·refine ak <| ab <| akw <| ae Z <| eu 0 Z Z Z Z <| ae Z <| akv <| ai <| fw Z (.agg 0 Z Z Z Z Z (.tmp Z .nil)) (af 1 [] Z) ?_;exact ⟨by rw [if_neg (by omega)];rfl,rfl⟩
theorem Af {s:ByteArray}:SC Tryz.prog Cs [.string s] b F (fun v F'=>v=ftV (mo (fe s))∧F'=F):=by
 have hsz:=sf s;refine aw Tryz.func100 Z Z Z <| akw <| db Z Z Z Z Z fun g2=>akv <| ad <| akw <| ae Z <| bf Z Z Z (I5) ?_
 rintro v F' ⟨hv,rfl⟩;by_cases h:(128:Int)<s.size
 ·rw [if_pos h] at hv;subst hv;refine am5 Z Z Z <| db Z Z Z Z Z fun g3=>eu 0 Z Z Z Z <| ae Z <| aan <| ae Z <| akv <| ao Z <| akw <| bt 0 Z Z Z <| eu 1 Z Z Z Z <| akv <| ai <| ag <| fw Z (.agg 1 Z Z Z Z Z .nil) (af 2 [] Z) ?_
  exact ⟨by rw [G8 (by omega)];rfl,rfl⟩
 ·rw [if_neg h] at hv;subst hv;refine am5 Z Z Z <| db Z Z Z Z Z fun g3=>eu 0 Z Z Z Z <| ae Z <| aan <| ae Z <| akv <| aj Z <| ak <| ab <| akw <| am4 Z Z <| bf Z Z Z (I4 (n:=7) Z) ?_
  rintro v F' ⟨g,rfl,rfl⟩
  skip
  refine bf Z Z Z (Yy (by omega)) ?_;rintro v F' ⟨rfl,rfl⟩;refine eu 1 Z Z Z Z <| akv <| ai <| fw Z (.agg 1 Z Z Z Z Z .nil) (af 2 [] Z) ?_;exact ⟨rfl,rfl⟩
end

section
variable {b:World} {F:List SP}
end

def mK (c:Int):Bool:=iX c || (decide (65≤c)&&decide (c≤90)) || decide (c=95) || decide (c=46) || decide (c=45)
def tOk (i:Nat) (c:Int):Bool:=mK c&&(decide (i≠0) || (decide (c≠46)&&decide (c≠45)))
theorem bO {c:Int}:mK c=true↔(97≤c∧c≤122)∨(48≤c∧c≤57)∨(65≤c∧c≤90)∨c=95∨c=46∨c=45:=by
 simp only [mK,aqw,anw,aoy,y6];omega
theorem Tf {i:Nat} {c:Int}:tOk i c=true↔((97≤c∧c≤122)∨(48≤c∧c≤57)∨(65≤c∧c≤90)∨c=95∨c=46∨c=45)∧(i≠0∨(c≠46∧c≠45)):=by
 simp only [tOk,anw,aqw,bO,aoy]
theorem oU {i:Nat} {c:Int} (h:tOk i c=true):0≤c∧c<128:=by have:=Tf.1 h;omega
def O5 (L:List Int):Option Nat:=(List.range L.length).find? fun p=> !tOk p (L[p]?.getD 0)
def pS (L:List Int) (p:Nat):Prop:=∀ k,k<p→∀ h:k<L.length,tOk k L[k]=true
theorem Lq {L:List Int} {p:Nat} (hp:p<L.length) (h:pS L p) (h2:tOk p L[p]=false):O5 L=some p:=by
 unfold O5;rw [List.find?_range_eq_some];refine ⟨by rw [am8 hp];simp [h2],by simpa using hp,fun k hk=> ?_⟩;rw [am8 (by omega)];simp [h k hk (by omega)]
theorem Lr {L:List Int} (h:pS L L.length):O5 L=none:=by
 unfold O5;rw [List.find?_eq_none];intro k hk;have hk:=aoa.1 hk;rw [am8 hk];simp [h k hk hk]
def po (L:List Int):Int × Int:=if 64<L.length then (4,64) else match O5 L with
 | some p => (7, p)
 | none => if L.length = 0 then (7, 0) else (0, 0)
theorem Ls {L:List Int} (h:64<L.length):po L=(4,64):=if_pos h
theorem Dq {L:List Int} {p:Nat} (hl:¬ 64<L.length) (hp:p<L.length) (h:pS L p) (h2:tOk p L[p]=false):po L=(7,(p:Int)):=by
 unfold po;rw [if_neg hl,Lq hp h h2]
theorem O6 {L:List Int} (hl:¬ 64<L.length) (h:pS L L.length):po L=if L.length=0 then (7,0) else (0,0):=by
 unfold po;rw [if_neg hl,Lr h]
theorem pS.step {L:List Int} {p:Nat} (h:pS L p) (hp:p<L.length) (h2:tOk p L[p]=true):pS L (p+1):=by
 intro k hk hl;by_cases e:k=p
 ·subst e;exact h2
 ·exact h k (by omega) hl
theorem Dr {s:ByteArray} {p i:Nat} (hp:p<s.size) (hl:p<(fe s).length):tOk i ((Utf8.decode s p).1:Int)=tOk i (fe s)[p]:=by
 rw [qR hp hl];by_cases h:(s[p]'hp).toNat<128
 ·rw [Go.decode_ascii s p hp h]
 ·have h1:=(Go.decode_high s p hp (by omega)).1;cases e1:tOk i ((Utf8.decode s p).1:Int) with
  | true => have := oU e1; omega
  | false =>
   cases e2:tOk i ((s[p]'hp).toNat:Int) with
   | true => have := oU e2; omega
   | false => rfl
theorem xS {s:ByteArray} {p i:Nat} (hp:p<s.size) (hl:p<(fe s).length) (h:tOk i (fe s)[p]=true):Utf8.decode s p=((s[p]'hp).toNat,1):=by
 rw [qR hp hl] at h;have:=oU h;exact Go.decode_ascii s p hp (by omega)

abbrev Wv:Value:= .func (.func zq) ⟨[]⟩ ⟨[]⟩
abbrev O7 (gs g1 g3:Nat):List SP:= [pt gs cU [.func (.func lX) ⟨[]⟩ ⟨[pp g1,pp g3]⟩,.bool true],pt g1 bH [Wv],pt g3 sY [pp gs]]
section
variable {b:World} {F:List SP}
theorem I6 {c:Int}:SC Tryz.prog zq [.int .i32 c] b F (fun v F'=>v = .bool (mK c)∧F'=F):=by
 refine aw Tryz.func190 Z Z Z <| akw <| ae Z <| aan <| ae Z <| bg Z Z Z (I3) <| ae Z ?_;by_cases h:iX c=true
 ·rw [h]
  (iterate 20 refine ae Z ?_)
  refine akv <| ai <| ar Z Z ax ?_;exact ⟨am7 Value.bool (by simp [mK,h]),rfl⟩
 have h':iX c=false:=by simpa using h
 rw [h'];refine am5 Z Z Z ?_;refine np 8 Z (fun h1=> ?_) (fun h1=> ?_)
 ·(iterate 5 refine ae Z ?_)
  refine np 13 Z (fun h2=> ?_) (fun h2=> ?_)
  ·(iterate 12 refine ae Z ?_)
   refine akv <| ai <| ar Z Z ax ?_;exact ⟨am7 Value.bool (by rw [bO.2 (by omega)]),rfl⟩
  ·refine am5 Z Z Z <| ae Z ?_;refine np 17 Z (fun h3=> ?_) (fun h3=> ?_)
   ·(iterate 8 refine ae Z ?_)
    refine akv <| ai <| ar Z Z ax ?_;exact ⟨am7 Value.bool (by rw [bO.2 (by omega)]),rfl⟩
   refine am5 Z Z Z <| ae Z ?_;refine np 21 Z (fun h4=> ?_) (fun h4=> ?_)
   ·refine am5 Z Z Z <| ae Z <| akv <| ai <| ar Z Z ax ?_;exact ⟨am7 Value.bool (by rw [bO.2 (by omega)]),rfl⟩
   ·refine am5 Z Z Z <| ae Z <| akv <| ai <| ar Z Z ax ?_;exact ⟨am7 Value.bool (by simp only [mK,h',Bool.false_or];rw [apw];simp;omega),rfl⟩
 ·(iterate 9 refine ae Z ?_)
  refine np 17 Z (fun h3=> ?_) (fun h3=> ?_)
  ·(iterate 8 refine ae Z ?_)
   refine akv <| ai <| ar Z Z ax ?_;exact ⟨am7 Value.bool (by rw [bO.2 (by omega)]),rfl⟩
  refine am5 Z Z Z <| ae Z ?_;refine np 21 Z (fun h4=> ?_) (fun h4=> ?_)
  ·refine am5 Z Z Z <| ae Z <| akv <| ai <| ar Z Z ax ?_;exact ⟨am7 Value.bool (by rw [bO.2 (by omega)]),rfl⟩
  ·refine am5 Z Z Z <| ae Z <| akv <| ai <| ar Z Z ax ?_;exact ⟨am7 Value.bool (by simp only [mK,h',Bool.false_or];rw [apw];simp;omega),rfl⟩
theorem Th {c:Int} {gs g1 g3:Nat}:SC Tryz.prog lX [.int .i32 c,pp g1,pp g3] b (O7 gs g1 g3++F) (fun v F'=>v=(if mK c=true then pp gs else .pointer none)∧F'=O7 gs g1 g3++F):=by
 refine aw Tryz.func256 Z Z Z <| akw <| ae Z <| akv <| ad <| akw <| bt 1 Z Z Z <| ae Z <| bg Z Z Z (I6) <| akv ?_;by_cases h:mK c=true
 ·rw [h];refine ao Z <| akw <| bt 2 Z Z Z <| ae Z <| akv <| ai <| ag <| ar Z Z ax ?_;exact ⟨rfl,rfl⟩
 ·have h':mK c=false:=by simpa using h
  rw [h'];refine aj Z <| ak <| ab <| akw <| ae Z <| akv <| ai <| ar Z Z ax ?_;exact ⟨rfl,rfl⟩
theorem Yz:SC Tryz.prog Gi [Wv] b F (fun v F'=>∃ gs g1 g3,v=pp gs∧F'=O7 gs g1 g3++F):=by
 refine aw Tryz.func191 Z Z Z <| akw <| bx Z Z Z Z Z fun g1=>ae Z <| aan <| db Z Z Z Z Z fun g3=>aan <| am4 Z Z <| bx Z Z Z Z Z fun gs=>eu 1 Z Z Z Z <| aan <| bt 1 Z Z Z <| ae Z <| akv <| ai <| ar Z Z (af 3 [0,2,1] Z) ?_
 exact ⟨gs,g1,g3,rfl,rfl⟩
theorem Ti {c:Int}:SC Tryz.prog lU [.int .i32 c] b F (fun v F'=>(tOk 0 c=true∧∃ gs g1 g3,v=pp gs∧F'=O7 gs g1 g3++F)∨(tOk 0 c=false∧v = .pointer none∧F'=F)):=by
 refine aw Tryz.func189 Z Z Z <| akw <| ae Z <| akv <| ad <| akw <| am5 Z Z Z ?_;by_cases h1:c=46
 ·refine bm 5 (.bool false) Z (by simp [h1]) ?_
  (iterate 7 refine ae Z ?_)
  refine akv <| aj Z <| ak <| ab <| akw <| ae Z <| akv <| ai <| ar Z Z ax ?_;exact .inr ⟨by subst h1;rfl,rfl,rfl⟩
 refine bm 5 (.bool true) Z (by simp [h1]) ?_;refine am5 Z Z Z <| ae Z ?_;by_cases h2:c=45
 ·refine bm 9 (.bool false) Z (by simp [h2]) ?_;refine am5 Z Z Z <| akv <| aj Z <| ak <| ab <| akw <| ae Z <| akv <| ai <| ar Z Z ax ?_;exact .inr ⟨by subst h2;rfl,rfl,rfl⟩
 refine bm 9 (.bool true) Z (by simp [h2]) ?_;refine ae Z <| bg Z Z Z (I6) <| ae Z <| akv ?_;have ht:tOk 0 c=mK c:=by simp [tOk,h1,h2]
 rw [ht];by_cases h3:mK c=true
 ·rw [h3];refine ao Z <| akw <| bf Z Z Z (Yz) ?_;rintro _ _ ⟨gs,g1,g3,rfl,rfl⟩;refine ae Z <| akv <| ai <| ag <| ar Z Z ax ?_;exact .inl ⟨rfl,gs,g1,g3,rfl,rfl⟩
 ·have h':mK c=false:=by simpa using h3
  rw [h'];refine aj Z <| ak <| ab <| akw <| ae Z <| akv <| ai <| ar Z Z ax ?_;exact .inr ⟨rfl,rfl,rfl⟩
def Ww (g:Nat) (F:List SP):Option (Nat × Nat × Nat)→List SP
 | none => pt g cU [.func (.func lU) ⟨[]⟩ ⟨[]⟩, .bool false] :: F
 | some x => O7 x.1 x.2.1 x.2.2 ++ F
def ajh (g:Nat):Option (Nat × Nat × Nat)→Nat
 | none => g
 | some x => x.1
end

section
variable {b:World} {F:List SP}
theorem Tj {s:ByteArray} {g:Nat} (hl:¬ 64<(fe s).length):SC Tryz.prog sR [.string s,pp g,ii 7] b (Ww g F none) (fun v F'=>v=ftV (po (fe s))∧F'=F):=by
 have hsz:=sf s;refine aw Tryz.func187 Z Z Z <| akw <| db Z Z Z Z Z fun g6=>akv <| ad <| akw <| ae Z <| xH Z Z Z Z Z Z fun gi=>akv <| am ?_
 refine dt (S:=Nat × Option (Nat × Nat × Nat)) (fun s'=> [(0,.string s),(1,pp (ajh g s'.2)),(2,ii 7),(6,pp g6),(10,pp gi)]) (fun s'=>ob gi (.stringIter s s'.1)::pt g6 t_api_Fault [ii 0,ii 0]::Ww g F s'.2)
  (fun s'=>s'.1≤s.size∧pS (fe s) s'.1∧(s'.2=none↔s'.1=0)) (fun s'=>s.size - s'.1) (0,none) ax ⟨anq _,fun k hk=>absurd hk (aqi k),⟨fun _=>rfl,fun _=>rfl⟩⟩ ?_
 rintro ⟨p,st⟩ ⟨hp,hgood,hst⟩;dsimp only at hp hgood hst ⊢;refine akw ?_;by_cases hlt:p<s.size
 ·have hpl:p<(fe s).length:=by omega
  refine Cj 0 Z Z Z Z Z hlt Z ?_;cases st with
  | none =>
   have hp0:p=0:=hst.1 Z;have htok:=Dr (i:=0) hlt hpl;have hone:=xS (i:=0) hlt hpl;refine ae Z <| akv <| ad <| ao Z <| ak <| ab <| am <| akw <| am5 Z Z Z <| ae Z <| aan <| am5 Z Z Z <| bt 2 Z Z Z <| ae Z <| bf Z Z Z (Ti) ?_;rintro v F' h;rcases h with ⟨h1,gs,g1,g3,rfl,rfl⟩ | ⟨h1,rfl,rfl⟩
   ·rw [htok] at h1;have h2:=hone h1;have hg:=hgood.step hpl ((am7 (fun i=>tOk i (fe s)[p]) hp0).trans h1);refine ae Z <| aan <| am4 Z Z <| akv <| aj Z <| ak <| bh ?_;refine cw (p+1,some (gs,g1,g3)) ?_ ⟨hlt,hg,⟨(fun h=>by cases h),(fun h=>by cases h)⟩⟩;rw [h2];exact af 6 [3,4,0,1,2] Z
   ·rw [htok] at h1;refine ae Z <| aan <| am4 Z Z <| akv <| ao Z <| akw <| am5 Z Z Z <| eu 1 Z Z Z Z <| akv <| ai <| al <| cd <| al <| ag <| fw Z (.agg 1 Z Z Z Z Z .nil) (af 3 [] Z) ?_;exact ⟨by rw [Dq hl hpl hgood ((am7 (fun i=>tOk i (fe s)[p]) hp0).trans h1)];rfl,rfl⟩
  | some x =>
   obtain ⟨gs,g1,g3⟩:=x;have hp0:p≠0:=fun e=>by have:=hst.2 e;cases this
   have htok:=Dr (i:=p) hlt hpl;have hone:=xS (i:=p) hlt hpl;have htc:∀ c,tOk p c=mK c:=fun c=>by simp [tOk,hp0]
   refine ae Z <| akv <| ad <| ao Z <| ak <| ab <| am <| akw <| am5 Z Z Z <| ae Z <| aan <| am5 Z Z Z <| bt 2 Z Z Z <| ae Z <| bg Z Z Z ((Th (gs:=gs)).at (af 5 [2,3,4,0,1] Z) (af 5 [3,4,0,1,2] Z)) <| ae Z <| aan <| ae Z ?_;rw [← htc,htok];by_cases h1:tOk p (fe s)[p]=true
   ·have h2:=hone h1;rw [if_pos h1];refine ae Z <| akv <| aj Z <| ak <| bh ?_;refine cw (p+1,some (gs,g1,g3)) ?_ ⟨hlt,hgood.step hpl h1,⟨(fun h=>by cases h),(fun h=>by cases h)⟩⟩;rw [h2];exact Ent.refl _
   ·rw [if_neg h1];refine ae Z <| akv <| ao Z <| akw <| am5 Z Z Z <| eu 1 Z Z Z Z <| akv <| ai <| al <| cd <| al <| ag <| fw Z (.agg 1 Z Z Z Z Z .nil) (af 5 [] Z) ?_;exact ⟨by rw [Dq hl hpl hgood (by simpa using h1)];rfl,rfl⟩
 ·refine xI 0 Z Z Z Z Z (by omega) ?_;have he:=O6 hl (by
   have:p=(fe s).length:=by omega
   rw [this] at hgood;exact hgood)
  cases st with
  | none =>
   have hp0:p=0:=hst.1 Z;rw [if_pos (by omega)] at he;refine ae Z <| akv <| ad <| aj Z <| bz <| au <| av <| ap <| ab <| ad <| akw <| am5 Z Z Z <| bt 2 Z Z Z <| ae Z <| akv <| ao Z <| akw <| am5 Z Z Z <| ae Z <| eu 1 Z Z Z Z <| akv <| ai <| ag <| fw Z (.agg 1 Z Z Z Z Z .nil) (af 3 [] Z) ?_;exact ⟨by rw [he,show s.size=0 by omega];rfl,rfl⟩
  | some x =>
   have hp0:p≠0:=fun e=>by have:=hst.2 e;cases this
   rw [if_neg (by omega)] at he;refine ae Z <| akv <| ad <| aj Z <| bz <| au <| av <| ap <| ab <| ad <| akw <| am5 Z Z Z <| bt 2 Z Z Z <| ae Z <| akv <| aj Z <| ak <| ab <| akw <| ae Z <| eu 1 Z Z Z Z <| akv <| ai <| fw Z (.agg 1 Z Z Z Z Z .nil) (af 5 [] Z) ?_;exact ⟨by rw [he];rfl,rfl⟩
theorem I7 {s:ByteArray}:SC Tryz.prog Gg [.string s] b F (fun v F'=>v=ftV (po (fe s))∧F'=F):=by
 have hsz:=sf s;refine aw Tryz.func102 Z Z Z <| akw <| db Z Z Z Z Z fun g2=>akv <| ad <| akw <| ae Z <| bf Z Z Z (I5) ?_
 rintro v F' ⟨hv,rfl⟩;by_cases h:(64:Int)<s.size
 ·rw [if_pos h] at hv;subst hv;refine am5 Z Z Z <| db Z Z Z Z Z fun g3=>eu 0 Z Z Z Z <| ae Z <| aan <| ae Z <| akv <| ao Z <| akw <| bt 0 Z Z Z <| eu 1 Z Z Z Z <| akv <| ai <| ag <| fw Z (.agg 1 Z Z Z Z Z .nil) (af 2 [] Z) ?_
  exact ⟨by rw [Ls (by omega)];rfl,rfl⟩
 ·rw [if_neg h] at hv;subst hv;refine am5 Z Z Z <| db Z Z Z Z Z fun g3=>eu 0 Z Z Z Z <| ae Z <| aan <| ae Z <| akv <| aj Z <| ak <| ab <| akw <| ae Z <| aan <| am5 Z Z Z <| bx Z Z Z Z Z fun g=> ?_
  skip
  refine bf Z Z Z (Tj (by omega)) ?_;rintro v F' ⟨rfl,rfl⟩;refine eu 1 Z Z Z Z <| akv <| ai <| fw Z (.agg 1 Z Z Z Z Z .nil) (af 2 [] Z) ?_;exact ⟨rfl,rfl⟩
end
end Go.Proofs.YtbpdffopjkhelaaGreat
