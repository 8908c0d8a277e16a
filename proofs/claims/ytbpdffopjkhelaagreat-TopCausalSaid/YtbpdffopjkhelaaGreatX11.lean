/- Blobs, part eleven: the heap: down, Push, Pop. Conditions: not too many. -/
import Derived.Test.YtbpdffopjkhelaaGreatX0
import Derived.Test.YtbpdffopjkhelaaGreatX3
set_option maxRecDepth 20000
set_option maxHeartbeats 8000000
namespace Go.Proofs.YtbpdffopjkhelaaGreat
open Go.Eng Go.RowKit Go.WideMaps

section
variable {b:World} {F:List SP} {A:Option Addr} {c n gh:Nat} {l:List (List Int)}
end

section
variable {b:World} {F:List SP} {A:Option Addr} {c n gh:Nat} {l:List (List Int)} {x:List Int}
end

theorem uI:∀ x y:List UInt8,Lib.compareBytes x y<0→¬ Lib.compareBytes y x<0
 | [], [] => by simp [Lib.compareBytes]
 | [], _ :: _ => by simp [Lib.compareBytes]
 | _ :: _, [] => by simp [Lib.compareBytes]
 | a :: x, b :: y => by
  have ih:=uI x y;simp only [Lib.compareBytes,aqs]
  repeat' split
  all_goals first | omega | exact ih
theorem Eb:∀ x y z:List UInt8,¬ Lib.compareBytes y x<0→¬ Lib.compareBytes z y<0→¬ Lib.compareBytes z x<0
 | [], _, [] => by simp [Lib.compareBytes]
 | [], _, _ :: _ => by simp [Lib.compareBytes]
 | _ :: _, [], [] => by simp [Lib.compareBytes]
 | _ :: _, _ :: _, [] => by simp [Lib.compareBytes]
 | _ :: _, [], _ :: _ => by simp [Lib.compareBytes]
 | a :: x, b :: y, c :: z => by
  have ih:=Eb x y z;simp only [Lib.compareBytes,aqs]
  repeat' split
  all_goals first | omega | exact ih
def leM (x y:List Int):Prop:=¬ pn y x<0
theorem Hm {x y:List Int} (h:pn x y<0):leM x y:=uI _ _ h
theorem yB {x y z:List Int} (h1:leM x y) (h2:leM y z):leM x z:=Eb _ _ _ h1 h2
abbrev at' (l:List (List Int)) (i:Nat):List Int:=l.getD i []

section
variable {b:World} {F:List SP}
variable {w r u:Int} {gs gm:Nat} {l:List Kp}
end

section
variable {b:World} {F:List SP} {p:Value} {id:List Int} (hn:∀ A:List SP,SC Tryz.prog qm [p] b (A++F) (fun v F'=>v = .bool true∧F'=A++F))
include hn
end
section
variable {b:World} {F:List SP} {q A0:Option Addr} {n0 c0:Nat} {id:List Int} (hn:∀ A:List SP,SC Tryz.prog qm [.pointer q] b (A++F) (fun v F'=>v = .bool true∧F'=A++F))
include hn
end

section
variable {b:World} {F:List SP} {gs gm:Nat} {w r u u':Int} {l:List Kp} {s:ByteArray} {is:Bool} {e:Int} {Pl:List Kp→Prop}
end
section
variable {b:World} {F:List SP}
end


section
variable {b:World} {F:List SP}
end

theorem uJ {α:Type} {f:α→Value}:∀ {ess:List (List Value)} {xs:List α},ess.length=xs.length→(∀ (i:Nat) e a,ess[i]? = some e→xs[i]? = some a→e = [f a])→ess.flatten=xs.map f
 | [], [], _, _ => rfl
 | [], _ :: _, h, _ => by simp at h
 | _ :: _, [], h, _ => by simp at h
 | e :: ess, a :: xs, h, hh => by
  rw [aqh,hh 0 e a Z rfl,uJ (by simpa using h) fun i e a h1 h2=>hh (i+1) e a h1 h2];rfl
theorem Px {W:World} {v:Value} {k:IntKind} {x:Value × List Int} (h:rdL 1 (rdI k) W [v] x):VL (Value.int k) W v x.2∧∀ n∈x.2,(Lit.int k n).wf=true:=by
 obtain ⟨hv,ess,e1,e2,e3,e4⟩:=h;simp only [apf,aq7] at hv;subst hv;have hf:=uJ (f:=Value.int k) e1 fun i e a h1 h2=>(e4 i e a h1 h2).1
 rw [hf] at e3;refine ⟨e3,fun n hn=> ?_⟩;obtain ⟨i,hi,rfl⟩:=ao0.1 hn;exact (e4 i _ _ (am8 (by omega)) (am8 hi)).2
def LB (W:World) (v:Value) (xss:List (List Int)):Prop:=∃ vs:List Value,vs.length=xss.length∧VL id W v vs∧∀ (i:Nat) u xs,vs[i]? = some u→xss[i]? = some xs→VL (Value.int .u8) W u xs∧lv xs
theorem Py {W:World} {v:Value} {x:Value × List (Value × List Int)} (h:rdL 1 (rdL 1 (rdI .u8)) W [v] x):LB W v (x.2.map (·.2)):=by
 obtain ⟨hv,ess,e1,e2,e3,e4⟩:=h;simp only [apf,aq7] at hv;subst hv;have hf:ess.flatten=(x.2.map (·.1)).map id:=by
  rw [apk];exact uJ e1 fun i e a h1 h2=>(e4 i e a h1 h2).1
 rw [hf] at e3;refine ⟨x.2.map (·.1),by simp,?_,fun i u xs h1 h2=> ?_⟩
 ·unfold VL;rw [anf];exact e3
 ·simp only [apj,Option.map_eq_some_iff] at h1 h2;obtain ⟨a,ha,rfl⟩:=h1;obtain ⟨a',ha',rfl⟩:=h2;obtain rfl:a=a':=by rw [ha] at ha';exact ao5 ha'
  have hi:i<ess.length:=by rw [e1];exact (ann.1 ha).1
  have:=e4 i _ a (am8 hi) ha;have hu:ess[i] = [a.1]:=this.1;rw [hu] at this;obtain ⟨h3,h4⟩:=Px this;exact ⟨h3,N5 h4⟩
theorem LB.get {W:World} {v:Value} {xss:List (List Int)} (h:LB W v xss):∃ A c,v = .slice A xss.length c∧xss.length≤c∧c≤9223372036854775807∧∀ i (hi:i<xss.length),∃ bk off u,A=some ⟨bk,off,none⟩∧bk<W.heap.size∧W.cell? ⟨bk,off+i,none⟩=some u∧VL (Value.int .u8) W u xss[i]∧lv xss[i]:=by
 obtain ⟨vs,h1,h2,h3⟩:=h;obtain ⟨A,c,rfl,f1,f2,f3,f4⟩:=h2.op;refine ⟨A,c,by rw [h1],by omega,f2,fun i hi=> ?_⟩;obtain ⟨bk,off,g1,g2,g3⟩:=f4 i (by omega);refine ⟨bk,off,vs[i]'(by omega),g1,g2,g3 i (by omega),?_⟩;exact h3 i _ _ (am8 (by omega)) (am8 hi)
theorem Aq {b:World} {F:List SP} {bk off k:Nat} {u:Value} (hk:nth F k=some (Is b)) (hb:bk<b.heap.size) (hc:b.cell? ⟨bk,off,none⟩=some u):∀ w,Sat b F w→w.cell? ⟨bk,off,none⟩=some u:=fun w H=>by
 exact (H.is hk).cell hc
section
variable {b:World} {F:List SP} {v:Value} {xss:List (List Int)} {n m:Int}
theorem Ed (hl:LB b v xss) (hF:nth F 0=some (Is b)) (hn:I64 n) (hm:I64 m):SC Tryz.prog aR [v,ii n,ii m] b F (fun u F'=>∃ r:Bool,(r=false→(xss.length:Int)≤n∧∀ xs∈xss,(xs.length:Int)≤m)∧u = .bool r∧F'=F):=by
 obtain ⟨A,c,rfl,f1,f2,f3⟩:=hl.get;refine aw Tryz.func6 Z Z Z <| akw <| ae Z <| akv <| ad <| akw <| ae Z <| akv <| am <| dt (S:=Nat) (fun i=> [(0,.slice A xss.length c),(1,ii n),(2,ii m),(7,ii i)]) (fun _=>F) (fun i=>i≤xss.length∧∀ k (hk:k<xss.length),k<i→(xss[k].length:Int)≤m) (fun i=>xss.length - i) 0 ax ⟨anq _,fun k _ h=>absurd h (aqi k)⟩ ?_;rintro i ⟨hi,hk⟩;refine ad <| akw ?_
 (iterate 5 refine ae Z ?_)
 by_cases h1:i<xss.length
 ·refine bm 12 (.bool true) Z (by simp;omega) ?_;refine am5 Z Z Z <| ae Z <| akv ?_;refine de Z (fun h2=> ?_) (fun h2=> ?_)
  ·obtain ⟨bk,off,u,rfl,g1,g2,g3,g4⟩:=f3 i h1;refine ak <| ab <| ad <| am <| akw <| am4 Z Z <| az Z ?_;refine fc Z (fun w H=>br Z Z Z (by rw [bq,aop];exact Aq hF g1 g2 w H)) Z ?_;obtain ⟨A2,c2,rfl,q1,q2,q3,q4⟩:=g3.form;refine am5 Z Z Z <| akv ?_;refine de Z (fun h3=> ?_) (fun h3=> ?_)
   ·refine akw <| ae Z <| akv <| ai <| al <| ag <| cd <| al <| ag <| ar Z Z ax ?_;exact ⟨true,(fun h=>by cases h),rfl,rfl⟩
   ·refine ak <| bh <| ab <| aa <| ae Z <| az Z <| ae Z <| ac ?_;refine ly (i+1) ax ⟨h1,fun k hk' hlt=> ?_⟩ (by first | omega | (dsimp only;omega));by_cases e:k=i
    ·subst e;omega
    ·exact hk k hk' (by omega)
  ·refine bz <| au <| av <| ap <| ab <| akw ?_
   (iterate 5 refine ae Z ?_)
   refine akv <| ai <| ar Z Z ax ?_;exact ⟨_,fun h=>by simp at h;omega,rfl,rfl⟩
 ·refine bm 12 (.bool false) Z (by simp;omega) ?_;refine am5 Z Z Z <| ae Z <| akv <| aj Z <| bz <| au <| av <| ap <| ab <| akw ?_
  (iterate 5 refine ae Z ?_)
  refine akv <| ai <| ar Z Z ax ?_;refine ⟨_,fun h=>⟨by simpa using h,fun xs hx=> ?_⟩,rfl,rfl⟩;obtain ⟨k,hk',rfl⟩:=ao0.1 hx;exact hk k hk' (by omega)
end

section
variable {b:World} {F:List SP} {va vb:Value} {xs ys:List Int} {id:List Int}
end


theorem qT:∀ x y:List UInt8,¬ Lib.compareBytes x y<0→¬ Lib.compareBytes y x<0→x=y
 | [], [] => by simp
 | [], _ :: _ => by simp [Lib.compareBytes]
 | _ :: _, [] => by simp [Lib.compareBytes]
 | a :: x, b :: y => by
  have ih:=qT x y;simp only [Lib.compareBytes,aqs];intro h1 h2;by_cases h3:a.toNat<b.toNat
  ·rw [if_pos h3] at h1;omega
  ·by_cases h4:b.toNat<a.toNat
   ·rw [if_pos h4] at h2;omega
   ·rw [if_neg h3,if_neg h4] at h1;rw [if_neg h4,if_neg h3] at h2;have e:a=b:=UInt8.toNat_inj.1 (by omega);rw [e,ih h1 h2]
theorem Jl {x y:List Int} (hx:lv x) (hy:lv y) (h:u8l x=u8l y):x=y:=by
 induction x generalizing y with
 | nil => cases y with
  | nil => rfl
  | cons b y => simp [u8l] at h
 | cons a x ih => cases y with
  | nil => simp [u8l] at h
  | cons b y =>
   simp only [u8l,ant,apf] at h;have h1:=hx a (by simp);have h2:=hy b (by simp);have h3:=am7 UInt8.toNat h.1;simp only [UInt8.toNat_ofNat'] at h3;rw [ih (fun c hc=>hx c (by simp [hc])) (fun c hc=>hy c (by simp [hc])) h.2];congr 1;omega
theorem Ee {x y:List Int} (hx:lv x) (hy:lv y) (h:leM x y) (hne:x≠y):pn x y<0 :=
 aqu fun h2=>hne (Jl hx hy (qT _ _ h2 h))
theorem ni {a:List Int} (h:idOk a):lv a:=fun x hx=>(ams x).1 (h.2 x hx)

abbrev dg (xs:List Int) (w:Int):List Int:=wv (we xs) w
def ww (l:List Kp):Int:=(l.map fun e=>(e.b.length:Int)).sum
structure StI (w r u:Int) (l:List Kp):Prop where
 nd:(l.map (·.id)).Nodup
 ids:∀ e∈l,e.id=dg e.b w
 bw:∀ e∈l,lv e.b
 ln:∀ e∈l,e.b.length≤4100
 us:u=ww l
 ur:u≤r
theorem StI.nil (w:Int) {r:Int} (h:0≤r):StI w r 0 []:=⟨by simp,by simp,by simp,by simp,rfl,h⟩
theorem L7 {a:List Int} {l:List Kp} {e:Kp} (h:qy a l=some e):e∈l∧e.id=a:=by
 obtain ⟨l1,l2,rfl,h2,_⟩:=I2 h;exact ⟨by simp,h2⟩
theorem Hn {a:List Int} {l:List Kp} (h:qy a l=none):∀ e∈l,e.id≠a:=by
 induction l with
 | nil => simp
 | cons x l ih =>
  simp only [qy] at h
  split at h
  ·cases h
  ·rename_i hx
   intro e he;rcases anj.1 he with rfl | he
   ·exact hx
   ·exact ih h e he
theorem Ho (l1 l2:List Kp):ww (l1++l2)=ww l1+ww l2:=by simp [ww]
theorem L8 (l:List Kp):0≤ww l:=by
 induction l with
 | nil => exact aql _
 | cons x l ih =>
  have:ww (x::l)=(x.b.length:Int)+ww l:=by simp [ww]
  omega
theorem StI.put {w r u:Int} {l:List Kp} (h:StI w r u l) {xs:List Int} {g:Nat} {v1:Value} (hn:qy (dg xs w) l=none) (hx:lv xs) (hlen:xs.length≤4100) (hr:u+xs.length≤r):StI w r (u+xs.length) (l ++ [⟨dg xs w,xs,g,v1⟩]):=by
 have hm:∀ e∈l ++ [(⟨dg xs w,xs,g,v1⟩:Kp)],e∈l∨e=⟨dg xs w,xs,g,v1⟩:=fun e he=>by simpa using he
 refine ⟨?_,fun e he=> ?_,fun e he=> ?_,fun e he=> ?_,?_,hr⟩
 ·simp only [anu,ant,aqm];refine ap8.2 ⟨h.nd,by simp,fun a ha z hz=> ?_⟩;obtain ⟨e,he,rfl⟩:=anb.1 ha;obtain rfl:z=dg xs w:=by simpa using hz
  exact Hn hn e he
 ·rcases hm e he with he | rfl
  ·exact h.ids e he
  ·rfl
 ·rcases hm e he with he | rfl
  ·exact h.bw e he
  ·exact hx
 ·rcases hm e he with he | rfl
  ·exact h.ln e he
  ·exact hlen
 ·rw [Ho,← h.us];simp [ww]

section
variable {b:World} {F:List SP} {gs gm:Nat} {w r u:Int} {l:List Kp}
end

section
variable {b:World} {F:List SP} {gs gm:Nat} {w r u:Int} {l:List Kp}
end
end Go.Proofs.YtbpdffopjkhelaaGreat
