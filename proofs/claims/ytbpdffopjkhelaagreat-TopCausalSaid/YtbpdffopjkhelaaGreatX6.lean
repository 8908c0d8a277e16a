/- Stable sorting, part one: the plain law. Things with their places; sorted pieces joined. Conditions: the order is one of classes. -/
import Derived.Test.YtbpdffopjkhelaaGreatX4
import Derived.Test.YtbpdffopjkhelaaGreatX5
import Derived.Test.YtbpdffopjkhelaaGreatX3
set_option maxRecDepth 20000
set_option maxHeartbeats 8000000
namespace Go.Proofs.YtbpdffopjkhelaaGreat

structure SWO {β:Type} (lt:β→β→Bool) (ok:β→Prop):Prop where
 asy:∀ x y,ok x→ok y→lt x y=true→lt y x=false
 ntr:∀ x y z,ok x→ok y→ok z→lt x y=false→lt y z=false→lt x z=false
section
variable {β:Type} {lt:β→β→Bool} {ok:β→Prop}
theorem SWO.tr (h:SWO lt ok) {x y z:β} (hx:ok x) (hy:ok y) (hz:ok z) (h1:lt x y=true) (h2:lt y z=true):lt x z=true:=by
 cases h3:lt x z with
 | true => rfl
 | false =>
  have:=h.ntr x z y hx hz hy h3 (h.asy y z hy hz h2);rw [h1] at this;cases this
def tl (lt:β→β→Bool) (x y:Nat × β):Prop:=lt x.2 y.2=true∨(lt y.2 x.2=false∧x.1<y.1)
theorem aji {x y:Nat × β} (h:lt y.2 x.2=false) (hp:x.1<y.1):tl lt x y:= .inr ⟨h,hp⟩
theorem Ds (h:SWO lt ok) {x y z:Nat × β} (hx:ok x.2) (hy:ok y.2) (hz:ok z.2) (h1:tl lt x y) (h2:tl lt y z):tl lt x z:=by
 rcases h1 with h1 | ⟨h1,p1⟩ <;> rcases h2 with h2 | ⟨h2,p2⟩
 ·exact .inl (h.tr hx hy hz h1 h2)
 ·cases h3:lt x.2 z.2 with
  | true => exact .inl h3
  | false =>
   have:=h.ntr _ _ _ hx hz hy h3 h2;rw [h1] at this;cases this
 ·cases h3:lt x.2 z.2 with
  | true => exact .inl h3
  | false =>
   have:=h.ntr _ _ _ hy hx hz h1 h3;rw [h2] at this;cases this
 ·exact .inr ⟨h.ntr _ _ _ hz hy hx h2 h1,by omega⟩
abbrev Srt (lt:β→β→Bool) (l:List (Nat × β)):Prop:=l.Pairwise (tl lt)
def Oks (ok:β→Prop) (l:List (Nat × β)):Prop:=∀ x∈l,ok x.2
theorem Y0 (h:SWO lt ok) {x t:Nat × β} {T:List (Nat × β)} (hx:ok x.2) (ho:Oks ok (t::T)) (hs:Srt lt (t::T)) (h1:tl lt x t):∀ y∈t::T,tl lt x y:=by
 intro y hy;rcases anj.1 hy with rfl | hy
 ·exact h1
 ·exact Ds h hx (ho t anl) (ho y (ank _ hy)) h1 ((aod.1 hs).1 y hy)
theorem Y1 (h:SWO lt ok) {x t:Nat × β} {S:List (Nat × β)} (hx:ok x.2) (ho:Oks ok (S ++ [t])) (hs:Srt lt (S ++ [t])) (h1:tl lt t x):∀ y∈S ++ [t],tl lt y x:=by
 intro y hy;rcases anr.1 hy with hy' | hy'
 ·exact Ds h (ho y hy) (ho t (by simp)) hx ((aof.1 hs).2.2 y hy' t (by simp)) h1
 ·rw [anc.1 hy'];exact h1
theorem Tk (h:SWO lt ok) {x:Nat × β} {S T:List (Nat × β)} (ho:Oks ok (S++x::T)) (hs:Srt lt (S++T)) (h1:∀ s∈S,tl lt s x) (h2:∀ t∈T,tl lt x t):Srt lt (S++x::T):=by
 obtain ⟨a,b,c⟩:=aof.1 hs;refine aof.2 ⟨a,aod.2 ⟨h2,b⟩,fun s hs' t ht=> ?_⟩;rcases anj.1 ht with rfl | ht
 ·exact h1 s hs'
 ·exact c s hs' t ht
theorem Y2 (h:SWO lt ok) {x:Nat × β} {S T:List (Nat × β)} (ho:Oks ok (S++x::T)) (hs:Srt lt (S++T)) (h1:∀ s S',S=S' ++ [s]→tl lt s x) (h2:∀ t T',T=t::T'→tl lt x t):Srt lt (S++x::T):=by
 obtain ⟨a,b,c⟩:=aof.1 hs;refine Tk h ho hs ?_ ?_
 ·rcases ap2 S with e1 | ⟨S',t,e1⟩
  ·rw [e1];simp
  rw [ap0] at e1;rw [e1];exact Y1 h (ho x (by simp)) (fun z hz=>ho z (by rw [e1];exact an5 _ hz)) (e1▸a) (h1 t S' e1)
 ·cases hT:T with
  | nil => simp
  | cons t T' => exact Y0 h (ho x (by simp)) (fun z hz => ho z (by rw [hT]; simp at hz ⊢; rcases hz with hz | hz <;> simp [hz])) (hT ▸ b) (h2 t T' hT)
end

section
variable {β:Type} {lt:β→β→Bool} {ok:β→Prop}
end
open Go Go.Eng Go.RowKit

abbrev pvC (p:Nat × Ev):List Value:=evC p.2
abbrev rPl (A:Option Addr) (c n:Nat) (D:List (Nat × Ev)):SP:=row qw 39 (.slice A n c) n (flC pvC D)
def zk (x y:Ev):Bool:=fN x.r x.n x.deps y.r y.n y.deps
def xT (x y:Ev):Int:=if zk x y=true then -1 else if zk y x=true then 1 else 0
theorem O8 (x y:Ev):decide (xT x y<0)=zk x y:=by
 unfold xT
 split
 ·rename_i h;rw [h];rfl
 ·rename_i h
  have h':zk x y=false:=by simpa using h
  rw [h']
  split <;> rfl
structure EvK (e:Ev):Prop where
 l32:e.id.length=32
 d1:e.dv.oneCell'=true
 r1:e.rv.oneCell'=true
section
variable {b:World} {F:List SP} {x y:Ev}
theorem I8 (hx:∀ w,Sat b F w→ER w x) (hy:∀ w,Sat b F w→ER w y):SC Tryz.prog lW [evV x,evV y] b F (fun v F'=>v = .bool (zk x y)∧F'=F):=by
 refine aw Tryz.func243 Z Z Z <| akw <| bx Z Z Z Z Z fun g2=> ?_
 skip
 refine bx Z Z Z Z Z fun g3=>ae Z <| aan <| ae Z <| bt 1 Z Z Z <| ae Z <| bt 1 Z Z Z <| ae Z <| bt 0 Z Z Z <| ae Z <| bt 0 Z Z Z <| bg Z Z Z ((SC.ofExt fun w H=>xN (up hx (af 2 [] Z) w H).dv (up hy (af 2 [] Z) w H).dv)) <| ae Z <| akv <| ai <| ar Z Z (af 2 [] Z) ?_
 exact ⟨rfl,rfl⟩
theorem Lt (hx:∀ w,Sat b F w→ER w x) (hy:∀ w,Sat b F w→ER w y) (kx:x.id.length=32) (ky:y.id.length=32):SC Tryz.prog uk [evV x,evV y] b F (fun v F'=>v=ii (xT x y)∧F'=F):=by
 refine aw Tryz.func163 Z Z Z <| akw <| bx Z Z Z Z Z fun g2=> ?_
 skip
 refine bx Z Z Z Z Z fun g3=>ae Z <| akv <| ad <| am <| akw ?_
 refine du 1 Z Z Z Z Z Z (dj (by rw [di kx];rfl)) Z ?_
 skip
 refine du 0 Z Z Z Z Z Z (dj (by rw [di ky];rfl)) Z ?_;refine bg Z Z Z ((I8 (up hx (af 2 [] Z)) (up hy (af 2 [] Z)))) <| ae Z <| akv ?_;refine sm Z (fun h=> ?_) (fun h=> ?_)
 ·refine akw <| ae Z <| akv <| ai <| al <| ag <| ar Z Z (af 2 [] Z) ?_;exact ⟨by rw [xT,if_pos h];rfl,rfl⟩
 ·refine akw ?_;refine du 0 Z Z Z Z Z Z (dj (by rw [di ky];rfl)) Z ?_
  skip
  refine du 1 Z Z Z Z Z Z (dj (by rw [di kx];rfl)) Z ?_;refine bg Z Z Z ((I8 (up hy (af 2 [] Z)) (up hx (af 2 [] Z)))) <| ae Z <| akv ?_;refine sm Z (fun h2=> ?_) (fun h2=> ?_)
  ·refine akw <| ae Z <| akv <| ai <| al <| ag <| ar Z Z (af 2 [] Z) ?_;exact ⟨by rw [xT,if_neg (by rw [h];simp),if_pos h2];rfl,rfl⟩
  ·refine ak <| bh <| ab <| akw <| ae Z <| akv <| ai <| ar Z Z (af 2 [] Z) ?_;exact ⟨by rw [xT,if_neg (by rw [h];simp),if_neg (by rw [h2];simp)];rfl,rfl⟩
end
section
variable {b:World} {F:List SP} {D:List (Nat × Ev)} {A:Option Addr} {c n:Nat}
theorem Ah (h:∀ m∈D,EvK m.2):∀ m∈D,(pvC m).length=39:=fun m hm=>di (h m hm).l32
theorem I9 (h:∀ m∈D,EvK m.2) {x:Nat × Ev} (hx:EvK x.2) (i:Nat):∀ m∈D.set i x,EvK m.2:=fun m hm=>by
 rcases apd hm with h' | rfl
 ·exact h m h'
 ·exact hx
end

theorem O9:SWO zk (fun _=>True) where
 asy:=fun x y _ _ h=>by
  unfold zk fN at *;have:=of_decide_eq_true h;exact ans (by omega)
 ntr:=fun x y z _ _ _ h1 h2=>by
  unfold zk fN at *;have a:=of_decide_eq_false h1;have c:=of_decide_eq_false h2;exact ans (by omega)
section
variable {b:World} {F:List SP} {D:List (Nat × Ev)} {A:Option Addr} {c n:Nat} {fv:Value}
theorem G9 (hK:∀ m∈D,EvK m.2) {j:Nat} {x:Nat × Ev} (h:D[j]? = some x):((flC pvC D).drop (j*39)).take 39=evC x.2:=by
 obtain ⟨hj,rfl⟩:=ann.1 h;exact pa (Ah hK) hj
theorem Pa (hK:∀ m∈D,EvK m.2) {j:Nat} {x:Nat × Ev} (hx:EvK x.2) (hj:j<D.length):spl (flC pvC D) (j*39) (evC x.2)=flC pvC (D.set j x):=vf (f:=pvC) (Ah hK) (di hx.l32) hj
theorem Pb (hK:∀ m∈D,EvK m.2):(flC pvC D).length=D.length*39:=ju (Ah hK)
theorem Ha (hK:∀ m∈D,EvK m.2) {j:Nat} {x:Nat × Ev} (h:D[j]? = some x):EvK x.2:=hK _ (aqf h)
theorem Pc {D':List (Nat × Ev)} (hK:∀ m∈D,EvK m.2) (h:D'.Perm D):∀ m∈D',EvK m.2:=fun m hm=>hK m (h.mem_iff.1 hm)
end

section
variable {b:World} {F:List SP} {A:Option Addr} {c n:Nat} {fv:Value}
end

theorem Hb {α:Type} (A:List α) (s x:α) (R:List α):((A++s::x::R).set (A.length+1) s).set A.length x=A++x::s::R:=by
 induction A with
 | nil => rfl
 | cons a A ih => simp only [aoe, anp, aq5, ih]
theorem Pd {α:Type} (A:List α) (x:α) (R:List α):(A++x::R)[A.length]? = some x:=by simp
theorem Tl {β:Type} (l:List (Nat × β)):Oks (fun _=>True) l:=fun _ _=>trivial
theorem Dt {L L1 T' S1 S2:List (Nat × Ev)} {x:Nat × Ev} (hL:L=L1++x::T') (hp:L.Pairwise fun x y=>x.1<y.1) (hM:(S1++S2).Perm L1) (hs:Srt zk (S1++S2)) (h1:∀ s S',S1=S' ++ [s]→zk x.2 s.2=false) (h2:∀ t T'',S2=t::T''→zk x.2 t.2=true) :
  (S1++x::S2).Perm (L1 ++ [x])∧Srt zk (S1++x::S2)∧L=(L1 ++ [x])++T':=by
 refine ⟨?_,?_,by rw [hL];simp⟩
 ·exact an2.trans ((List.Perm.cons x hM).trans (List.perm_append_singleton x L1).symm)
 ·refine Y2 O9 (Tl _) hs (fun s S' e=>aji (h1 s S' e) ?_) (fun t T'' e=> .inl (h2 t T'' e));subst hL;exact (aof.1 hp).2.2 s (hM.mem_iff.1 (by rw [e];simp)) x (by simp)
theorem Pe {P L L1 T' S1 S2 B:List (Nat × Ev)} {x:Nat × Ev} (hL:L=L1++x::T') (hM:(S1++S2).Perm L1):(P++S1++(x::(S2++(T'++B)))).Perm (P++L++B):=by
 have h1:(S1++x::S2).Perm (L1 ++ [x]):=an2.trans ((List.Perm.cons x hM).trans (List.perm_append_singleton x L1).symm);have e1:P++S1++(x::(S2++(T'++B)))=P++((S1++x::S2)++(T'++B)):=by simp
 have e2:P++L++B=P++((L1 ++ [x])++(T'++B)):=by rw [hL];simp
 rw [e1,e2];exact (h1.append_right _).append_left P
abbrev Ai:Value:= .func (.func uk) ⟨[]⟩ ⟨[]⟩
section
variable {b:World} {F:List SP} {A:Option Addr} {c n:Nat}
theorem Du {P L B:List (Nat × Ev)} {a z:Nat} (hE:∀ m∈P++L++B,∀ w,Sat b F w→ER w m.2) (hK:∀ m∈P++L++B,EvK m.2) (hn:(P++L++B).length=n) (hm:n≤100000) (ha:P.length=a) (hz:a+L.length=z) (hp:L.Pairwise fun x y=>x.1<y.1) :
  SC Tryz.prog om [.slice A n c,ii a,ii z,Ai] b (rPl A c n (P++L++B)::F) (fun _ F'=>∃ M,M.Perm L∧Srt zk M∧F'=rPl A c n (P++M++B)::F):=by
 have bn:a+L.length+B.length=n:=by simp only [am9] at hn;omega
 refine aw Tryz.func281 Z Z Z <| bu (fun w H=>(H.oat (k:=0) Z).form) ?_;rintro ⟨A',c',hv,k1,k2,k3⟩;cases hv;refine akw <| ae Z <| az Z <| ae Z <| akv <| am ?_;cases L with
 | nil =>
  refine dt (S:=Unit) (fun _=> [(0,.slice A n c),(1,ii a),(2,ii z),(3,Ai),(8,ii ((a:Int)+1))]) (fun _=>rPl A c n (P ++ []++B)::F) (fun _=>True) (fun _=>0) () ax trivial ?_;intro _ _;refine ad <| akw <| am5 Z Z Z <| akv ?_;refine de Z (fun h=> ?_) (fun h=> ?_)
  ·simp only [ao1] at hz;omega
  ·refine bz <| au <| av <| ap <| jb Z .nil ax ?_;exact ⟨[],aq0 _,List.Pairwise.nil,rfl⟩
 | cons x0 L0 =>
 have e0:P++x0::L0++B=P ++ [x0]++(L0++B):=by simp
 refine dt (S:=Nat × List (Nat × Ev) × List (Nat × Ev)) (fun s=> [(0,.slice A n c),(1,ii a),(2,ii z),(3,Ai),(8,ii s.1)]) (fun s=>rPl A c n (P++s.2.1++(s.2.2++B))::F)
  (fun s=>∃ L1,x0::L0=L1++s.2.2∧s.2.1.Perm L1∧Srt zk s.2.1∧a+s.2.1.length=s.1) (fun s=>s.2.2.length) (a+1,[x0],L0) (by rw [e0];exact Ent.refl _)
  ⟨[x0],rfl,aq0 _,ao7 _ _,rfl⟩ ?_
 rintro ⟨i,M,T⟩ ⟨L1,hL,hM,hs,hi⟩;dsimp only at hL hM hs hi ⊢;have hMl:=hM.length_eq;have hLl:(x0::L0).length=L1.length+T.length:=by rw [hL,am9]
 refine ad <| akw <| am5 Z Z Z <| akv ?_;refine de Z (fun h1=> ?_) (fun h1=> ?_)
 ·cases T with
  | nil => rw [ao1] at hLl; omega
  | cons x T =>
  rw [anp] at hLl;refine ak <| ab <| ad <| am <| akw <| am4 Z Z <| akv <| am ?_;refine dt (S:=Nat × List (Nat × Ev) × List (Nat × Ev)) (fun s=> [(0,.slice A n c),(1,ii a),(2,ii z),(3,Ai),(8,ii i),(9,ii s.1)]) (fun s=>rPl A c n (P++s.2.1++(x::(s.2.2++(T++B))))::F)
   (fun s=>M=s.2.1++s.2.2∧a+s.2.1.length=s.1∧∀ t T'',s.2.2=t::T''→zk x.2 t.2=true) (fun s=>s.2.1.length) (i,M,[]) ax ⟨by simp,hi,fun t T'' h=>by cases h⟩ ?_
  rintro ⟨j,S1,S2⟩ ⟨rfl,hj,hlt⟩;dsimp only at hj hlt ⊢;have hD:=Pe (P:=P) (B:=B) hL hM;have hKD:=Pc hK hD;have hxm:x∈P++S1++(x::(S2++(T++B))):=by simp
  have hlenD:=hD.length_eq;rw [hn] at hlenD;have hax:(P++S1++(x::(S2++(T++B))))[j]? = some x:=by
   have:=Pd (P++S1) x (S2++(T++B));rwa [am9,ha,hj] at this
  have hjn:j<n:=by rw [← hlenD];exact (ann.1 hax).1
  obtain ⟨gg,oo,rfl⟩:=k3 (by omega);have ex:=hE x (hD.mem_iff.1 hxm);have kx:=Ha hKD hax;have fx:=G9 hKD hax;rcases ap2 S1 with rfl | ⟨S1',s,rfl⟩
  ·have hja:j=a:=by simpa using hj.symm
   subst hja;refine yj ax <| ad <| ad <| cn flo _ (by decide +kernel) ax <| ay Z Zl <| ay Z Zl <| ay Z Zl <| ay Z Zl <| vr 21 Z (by omega) ?_
   (iterate 10 refine ay Z Zl ?_)
   refine ay Z (.inr Z) <| ay Z Zl <| ay Z Zl <| aq <| ab <| aj Z <| bz <| au <| av <| ap <| bh <| ab <| aa <| ae Z <| az Z <| ae Z <| ac ?_;obtain ⟨g1,g2,g3⟩:=Dt hL hp hM hs (fun s S' e=>by simp at e) hlt;rw [show (i:Int)+1=((i+1:Nat):Int) by omega];refine ly (i+1,[]++x::S2,T) ?_ ⟨L1 ++ [x],g3,g1,g2,?_⟩ (by dsimp only;simp)
   ·rw [show P ++ []++(x::(S2++(T++B)))=P++([]++x::S2)++(T++B) by simp];exact Ent.refl _
   ·dsimp only at hi ⊢;simp at hi ⊢;omega
  ·rw [ap0] at hj hM hs hi hD hKD hxm hlenD hax fx hMl ⊢;have hj2:a+S1'.length+1=j:=by simp at hj;omega
   have e3:P++(S1' ++ [s])++(x::(S2++(T++B)))=(P++S1')++s::x::(S2++(T++B)):=by simp
   have has:(P++(S1' ++ [s])++(x::(S2++(T++B))))[j - 1]? = some s:=by
    have:=Pd (P++S1') s (x::(S2++(T++B)));rw [am9,ha,show a+S1'.length=j - 1 by omega] at this;rw [e3];exact this
   have hsm:=aqf has;have es:=hE s (hD.mem_iff.1 hsm);have ks:=Ha hKD has;have fs:=G9 hKD has;have hsw:((P++(S1' ++ [s])++(x::(S2++(T++B)))).set j s).set (j - 1) x=P++S1'++(x::(s::S2++(T++B))):=by
    have:=Hb (P++S1') s x (S2++(T++B));rw [am9,ha,hj2,show a+S1'.length=j - 1 by omega,← e3] at this;rw [this];simp
   have w1:=Pa hKD ks (j:=j) (by omega);have w2:=Pa (I9 hKD ks j) kx (j:=j - 1) (by rw [app];omega);have l1:=Pb hKD;have l2:=Pb (I9 hKD ks j);rw [app] at l2;rw [hsw] at w2;rw [hlenD] at l1 l2;have hb1:j*39+39≤n*39∧(j - 1)*39+39≤n*39:=by omega
   have x1:=kp kx.d1 kx.r1;have x2:=kp ks.d1 ks.r1;have xl:=di kx.l32;have sl:=di ks.l32;have hN:((j:Int) - 1).toNat=j - 1:=by omega
   have hst:=fun q1 q2=>Dt hL hp hM hs q1 q2
   generalize hX:P++(S1' ++ [s])++(x::(S2++(T++B)))=X at *;refine yj ax <| ad <| ad <| cn flo (rPl (some ⟨gg,oo,none⟩) c n X::F) (by decide +kernel) ax <| ay Z Zl <| ay Z Zl <| ay Z Zl <| ay Z Zl <| yn 21 Z (by omega) <| ay Z Zl <| ay Z Zl <| ay Z Zl <| cq Z Z ?_;refine j5 0 (j*39) Z Z Z Z Z Z Z Z (by rw [bq,am6]) (by omega) fx (by rw [xl];rfl) ?_;refine ay Z Zl <| ay Z Zl <| cq Z Z <| cq Z Z ?_;refine j5 0 ((j - 1)*39) Z Z Z Z Z Z Z Z (by rw [bq,hN]) (by omega) fs (by rw [sl];rfl) ?_;refine dh Z Z Z Z ((Lt (up ex (af 1 [] Z)) (up es (af 1 [] Z)) kx.l32 ks.l32)) ax <| ay Z Zl <| ay Z Zl <| cz 34 (.bool (zk x.2 s.2)) Z (am7 Value.bool (O8 x.2 s.2)) ?_;cases hc:zk x.2 s.2 with
   | false =>
    skip
    refine aq <| ab <| aj Z <| bz <| au <| av <| ap <| bh <| ab <| aa <| ae Z <| az Z <| ae Z <| ac ?_;obtain ⟨g1,g2,g3⟩:=hst (fun s' S'' e=>by
     obtain ⟨_,e⟩:=List.append_inj' e Z;cases e;exact hc) hlt
    rw [show (i:Int)+1=((i+1:Nat):Int) by omega];refine ly (i+1,(S1' ++ [s])++x::S2,T) ?_ ⟨L1 ++ [x],g3,g1,g2,?_⟩ (by dsimp only;simp)
    ·rw [← hX,show P++(S1' ++ [s])++(x::(S2++(T++B)))=P++(S1' ++ [s]++x::S2)++(T++B) by simp];exact Ent.refl _
    ·dsimp only at hi ⊢;simp at hi ⊢;omega
   | true =>
    skip
    refine aq <| ab <| ao Z <| ak <| ab <| ad <| am ?_;refine w9 flo 18 _ (by kernel_rfl) Z ax ?_;refine pg (15,[0,1,5,6,7,8,9,10,11,12,13,14]) [] (by kernel_rfl) ⟨jm 0 2 (L2:=List.range' 5 10) Z Z ?_,trivial⟩;refine ay Z Zl <| ay Z Zl <| aq (s0 ax (jm 5 10 (L2:= []) Z Z (ay Z Zl <| ay Z Zl <| cq Z Z <| cq Z Z ?_)));refine j5 0 ((j - 1)*39) Z Z Z Z Z Z Z Z (by rw [bq,hN]) (by omega) fs (by rw [sl];rfl) ?_;refine ay Z Zl <| ay Z Zl <| cq Z Z ?_;refine j5 0 (j*39) Z Z Z Z Z Z Z Z (by rw [bq,am6]) (by omega) fx (by rw [xl];rfl) ?_;refine cq Z Z <| aq <| s0 ax <| jf [] Z (dc _) ?_;refine me 0 (j*39) Z Z Z Z Z Z Z Z Z w1 (by rw [sl];rfl) (by rw [bq,am6]) (by rw [sl];omega) x2 (dc _) ?_;refine aq (io (dc _) (pg (17,[2,3,4,16]) [] (by kernel_rfl) ⟨jm 2 3 (L2:= [16]) Z Z ?_,trivial⟩));refine ay Z Zl <| ay Z Zl <| cq Z Z <| aq <| s0 (dc _) <| xa 16 1 Z Z Z <| cq Z Z ?_;refine me 0 ((j - 1)*39) Z Z Z Z Z Z Z Z Z w2 (by rw [xl];rfl) (by rw [bq,hN]) (by rw [xl];omega) x1 (dc _) ?_;refine aq (io (dc _) (yq 0 0 (by kernel_rfl) (by kernel_rfl) Z (aq ?_)));refine bh <| ab <| aa <| ae Z <| az Z <| ae Z <| ac ?_;rw [show (j:Int) - 1=((j - 1:Nat):Int) by omega];refine ly (j - 1,S1',s::S2) ax ⟨by simp,?_,fun t T'' e=> ?_⟩ (by dsimp only;simp)
    ·dsimp only;omega
    ·cases e;exact hc
 ·refine bz <| au <| av <| ap ?_;have hT:T = []:=by
   have:T.length=0:=by omega
   exact an3 this
  subst hT;rw [anv] at hL;refine jb Z .nil ax ?_;exact ⟨M,hL▸hM,hs,rfl⟩
end

section
variable {x:Nat × Ev} {S T:List (Nat × Ev)}
end

section
variable {b:World} {F:List SP} {c n:Nat}
end

section
variable {b:World} {F:List SP} {A:Option Addr} {c n:Nat}
end

def tag {α:Type} (i:Nat):List α→List (Nat × α)
 | [] => []
 | x :: l => (i, x) :: tag (i + 1) l
theorem Tn {α:Type} (l:List α) (i j:Nat):(tag i l)[j]? = l[j]?.map fun x=>(i+j,x):=by
 induction l generalizing i j with
 | nil => simp [tag]
 | cons x l ih =>
  cases j with
  | zero => simp [tag]
  | succ j =>
   simp only [tag,aqz,ih];congr 1;funext x;rw [Nat.add_right_comm,apv]
theorem mL {α:Type} (l:List α) (i:Nat):(tag i l).map Prod.snd=l:=by
 induction l generalizing i with
 | nil => rfl
 | cons x l ih => simp only [tag, ant, ih]
theorem To {α β:Type} (f:α→β) (l:List α) (i:Nat):tag i (l.map f)=(tag i l).map fun x=>(x.1,f x.2):=by
 induction l generalizing i with
 | nil => rfl
 | cons x l ih => simp only [tag, ant, ih]
theorem Ja {α:Type} (l:List α) (i:Nat):(tag i l).length=l.length:=by
 rw [← anf (f:=Prod.snd),mL]
theorem Tp {α:Type} (l:List α):∀ (j:Nat) (x:Nat × α),(tag 0 l)[j]? = some x→x.1=j:=fun j x h=>by
 rw [Tn] at h;cases hj:l[j]? with
 | none => rw [hj] at h; cases h
 | some y => rw [hj] at h; cases h; simp
theorem Aj {α:Type} {l:List α} {i:Nat} {x:Nat × α} (h:x∈tag i l):x.2∈l:=by
 have:=List.mem_map_of_mem (f:=Prod.snd) h;rwa [mL] at this
def tW (l S:List Ev):Prop:=∃ M:List (Nat × Ev),M.Perm (tag 0 l)∧Srt zk M∧M.map Prod.snd=S
theorem tW.perm {l S:List Ev} (h:tW l S):S.Perm l:=by
 obtain ⟨M,p,s,rfl⟩:=h;have:=p.map Prod.snd;rwa [mL] at this
theorem Lu {l S:List Ev} {M:List (Nat × Ev)} (p:M.Perm (tag 0 l)) (s:Srt zk M) (e:(M.map Prod.snd).map nE=S):tW (l.map nE) S:=by
 refine ⟨M.map fun x=>(x.1,nE x.2),?_,?_,by rw [← e,apk,apk];rfl⟩
 ·rw [To];exact p.map _
 ·rw [Srt,ap7];exact s.imp fun h=>h

theorem Pg {l m:List Ev} (h:l.Perm m):(evF l).Perm (evF m):=by
 induction h with
 | nil => exact .refl _
 | cons x _ ih => exact ih.append_left _
 | swap x y l =>
  simp only [evF,← anh];exact ao9.append_right _
 | trans _ _ h1 h2 => exact h1.trans h2
theorem Tq (M:List (Nat × Ev)):flC pvC M=qF (M.map Prod.snd):=by
 induction M with
 | nil => rfl
 | cons x M ih => simp only [flC, ant, ih]
theorem xU (D:List Ev) (y:Ev):qF (D ++ [y])=qF D++evC y:=by
 show flC evC (D ++ [y])=flC evC D++evC y;rw [fu];simp [flC]
structure EvM (e:Ev):Prop where
 l32:e.id.length=32
 dn:e.deps.length≤1000000
 rn:e.refs.length≤1000000
theorem EvM.nE {e f:Ev} (h:EvM e) (hf:nE f=nE e):EvM f:=by
 obtain ⟨dv,rv,rfl⟩:=ajf hf.symm;exact ⟨h.l32,h.dn,h.rn⟩
theorem Tr {l D:List Ev} (h:∀ e∈l,EvM e) (hD:D.map Go.Proofs.YtbpdffopjkhelaaGreat.nE=l.map Go.Proofs.YtbpdffopjkhelaaGreat.nE):∀ e∈D,EvM e:=fun e he=>by
 have h1:Go.Proofs.YtbpdffopjkhelaaGreat.nE e∈l.map Go.Proofs.YtbpdffopjkhelaaGreat.nE:=by rw [← hD];exact anb.2 ⟨e,he,rfl⟩
 obtain ⟨f,hf,hfe⟩:=anb.1 h1;exact (h f hf).nE hfe.symm
theorem vg {w:World} {e:Ev} (h:ER w e):e.dv.oneCell'=true∧e.rv.oneCell'=true:=by
 obtain ⟨A,c,hd,_⟩:=h.dv.form;obtain ⟨A2,c2,hr,_⟩:=cp h.rv;exact ⟨by rw [hd];rfl,by rw [hr];rfl⟩
section
variable {b:World} {F:List SP} {l:List Ev}
theorem Y3 {v:Value} (hst:∀ {F:List SP} {A:Option Addr} {c n:Nat} {D:List (Nat × Ev)},(∀ (j:Nat) (x:Nat × Ev),D[j]? = some x→x.1=j)→(∀ m∈D,∀ w,Sat b F w→ER w m.2)→(∀ m∈D,EvK m.2)→D.length=n→n≤l.length →
   SC Tryz.prog iv [.slice A n c,Ai] b (rPl A c n D::F) (fun _ F'=>∃ M,M.Perm D∧Srt zk M∧F'=rPl A c n M::F)) (hl:∀ w,Sat b F w→EL w v l) (hk:∀ e∈l,EvM e) (hn:l.length≤100000) :
  SC Tryz.prog lR [v] b F (fun u F'=>∃ D,tW (l.map nE) (D.map nE)∧F'=rEs u D::all (evF D)::F):=by
 have h32:∀ e∈l,e.id.length=32:=fun e he=>(hk e he).l32
 refine aw Tryz.func71 Z Z Z <| bu (fun w H=>cp (hl w H).sl) ?_;rintro ⟨A0,c0,rfl,_,_,_,k4,_⟩;refine akw <| ae Z <| aan <| ae Z <| akv <| ad <| akw <| am5 Z Z Z <| akv <| am ?_;refine dt (S:=Nat × List Ev × Nat × Option Addr × Nat) (fun s=> [(2,.slice none 0 0),(3,.slice s.2.2.2.1 s.2.2.1 s.2.2.2.2),(8,.slice A0 l.length c0),(9,ii l.length),(10,ii s.1)])
  (fun s=>row qw 39 (.slice s.2.2.2.1 s.2.2.1 s.2.2.2.2) s.2.2.1 (qF s.2.1)::all (evF s.2.1)::F) (fun s=>s.1≤l.length∧s.2.1.map nE=(l.take s.1).map nE∧s.2.1.length=s.2.2.1) (fun s=>l.length - s.1) (0,[],0,none,0) ?_ ⟨anq _,rfl,rfl⟩ ?_
 ·exact (eg (G:= [])).trans (df qw 39 Z)
 rintro ⟨i,D,o,A,c⟩ ⟨hi1,hD,ho⟩;dsimp only at hi1 hD ho ⊢;have hDl:D.length=i:=by have:=am7 List.length hD;rw [anf,anf,anm] at this;omega
 refine akw <| ae Z <| akv <| ad ?_;refine de Z (fun h1=> ?_) (fun h1=> ?_)
 ·have h1':i<l.length:=by omega
  obtain ⟨gg,oo,rfl⟩:=k4 (by omega);have hmem:=ana h1';have hsn:(l.take (i+1)).map nE=D.map nE ++ [nE l[i]]:=by rw [ang h1',anu,← hD];rfl
  have hc:∀ w,Sat b F w→∀ j,j<39→w.cell? ⟨gg,oo+i*39+j,none⟩=(evC l[i])[j]?:=fun w H j hj=>Aa (hl w H) h32 h1' hj
  have her:∀ w,Sat b F w→ER w l[i]:=fun w H=>(hl w H).er _ hmem
  obtain ⟨hx32,hxd,hxr⟩:=hk _ hmem;generalize l[i]=x at *;refine bu (fun w H=>vg (her w (H.ent (af 2 [] Z)))) ?_;rintro ⟨o1,o2⟩;have xl:=di hx32;have x1:=kp o1 o2;refine ak <| ab <| ad <| am <| akw <| az Z ?_;refine fc Z (fun w H=>cg (cs:=evC x) Z Z Z xl (fun j hj=>by rw [bq,am6];exact hc w (H.ent (af 2 [] Z)) j (by rw [xl] at hj;exact hj))) Z ?_;refine db Z Z Z Z Z fun g5=> ?_;refine fh 0 Z Z Z Z Z Z Z xl x1 (by rw [xl];rfl) ?_;refine akv <| ad <| jc flo 7 (pt g5 ba (evC x)::F) [] Z (by decide +kernel) (af 3 [0] Z) <| ay Z Zl <| cl 0 Z Z Z Z <| d9 Z Z Z Z (cX (up (fun w H=>(her w H).dv) (af 3 [] Z)) hxd) ?_;rintro dv _ rfl;refine ⟨af 4 [1] rfl,(ay Z Zl <| rQ 0 Z Z Z Z Z Z (aF hx32) Z Z <| d9 Z Z Z Z (gX (up (fun w H=>(her w H).rv) (af 4 [] Z)) hxr) ?_)⟩;rintro rv _ rfl;refine ⟨af 5 [2] rfl,(ay Z Zl <| aq <| jd Z (dc _) <| ix (fun w H=>(H.oat (k:=1) Z).form) ?_)⟩;rintro ⟨A1,c1,rfl,_,_,_⟩;refine ix (fun w H=>(H.oat (k:=0) Z).form) ?_;rintro ⟨A2,c2,rfl,_,_,_⟩
  skip
  refine aM 2 Z Z Z Z Z Z Z Z Z (show stO (evC x) 2 _=some (evC {x with dv:= .slice A1 x.deps.length c1}) from Z) Z (dc _) <| ay Z Zl <| aM 2 Z Z Z Z Z Z Z Z Z (show stO _ 38 _=some (evC (x.own (.slice A1 x.deps.length c1) (.slice A2 x.refs.length c2))) from Oz (e:= {x with dv:= .slice A1 x.deps.length c1}) hx32) Z (dc _) <| aq ?_;have hyl:=di (e:=x.own (.slice A1 x.deps.length c1) (.slice A2 x.refs.length c2)) hx32;have hy1:=kp (e:=x.own (.slice A1 x.deps.length c1) (.slice A2 x.refs.length c2)) Z Z;have hyn:nE (x.own (.slice A1 x.deps.length c1) (.slice A2 x.refs.length c2))=nE x:=rfl;have hyP:evP (x.own (.slice A1 x.deps.length c1) (.slice A2 x.refs.length c2)) = [rZ (.slice A1 x.deps.length c1) x.deps,rD (.slice A2 x.refs.length c2) x.refs]:=rfl;generalize x.own (.slice A1 x.deps.length c1) (.slice A2 x.refs.length c2)=y at *;refine ab <| aa <| ae Z ?_;refine du 2 Z Z Z Z Z Z (dj (by rw [hyl];rfl)) Z ?_;refine lr Z Z Z Z Z Z Z hyl (by decide) fun gl=> ?_;refine ef 4 Z Z Z Z Z Z Z Z Z (m:=1) (news:=evC y) (fun w H=>(H.blk (k:=0) Z).sl (by rw [hyl]) (by decide)) hy1 (by omega) (fun _=>rfl) fun v8=> ?_;refine b9 (fun w H=>(H.oat (k:=4) Z).form) ?_;rintro ⟨A7,c7,rfl,_,_,_⟩;refine ae Z <| ac <| bh <| ab <| aa <| az Z <| ae Z <| ac ?_;refine rl (G:=evP y++(all (evF D)::row qw 39 (.slice A7 (o+1) c7) (o+1) (qF (D ++ [y]))::F)) ?_ ?_
  ·rw [hyP,xU];exact af 6 [2,1,5,4] Z
  refine rl (ny (A:=evF (D ++ [y])) Dm) ?_;refine cw (i+1,D ++ [y],o+1,A7,c7) (af 2 [1,0] Z) ⟨h1',by dsimp only;rw [hsn,anu];simp [hyn],by simp [ho]⟩
 ·obtain rfl:i=l.length:=by omega
  rw [an7] at hD;subst ho;have hkD:=Tr hk hD;refine bz <| au <| av <| ap <| ab <| akw <| ae Z ?_;refine b9 (p:=∀ e∈D,EvK e) (fun w H e he=>by
   have:=vg (tQ (k:=1) Z he w H);exact ⟨(hkD e he).l32,this.1,this.2⟩) fun hK=> ?_
  have e9:row qw 39 (.slice A D.length c) D.length (qF D)=rPl A c D.length (tag 0 D):=by
   simp only [rPl,Tq,mL]
  rw [e9];refine bf Z Z Z (hst (F:=all (evF D)::F) (A:=A) (c:=c) (Tp D) (fun m hm=>tQ (k:=0) Z (Aj hm)) (fun m hm=>hK _ (Aj hm)) (Ja D 0) (by omega)) ?_;rintro _ _ ⟨M,g1,g2,rfl⟩;have hML:M.length=D.length:=by rw [g1.length_eq,Ja]
  have hKM:∀ m∈M,EvK m.2:=fun m hm=>hK _ (Aj (g1.mem_iff.1 hm))
  have hSp:(M.map Prod.snd).Perm D:=by
   have:=g1.map Prod.snd;rwa [mL] at this
  refine b9 (fun w H=>(H.oat (k:=0) Z).form) ?_;rintro ⟨A',c',hv',_,_,q3⟩;cases hv';refine akv <| ad <| akw <| am5 Z Z Z <| akv <| am ?_;refine dt (S:=Nat × Nat × Option Addr × Nat) (fun s=> [(2,.slice s.2.2.1 s.2.1 s.2.2.2),(29,.slice A D.length c),(30,ii D.length),(31,ii s.1)])
   (fun s=>rPl A c D.length M::row ba 39 (.slice s.2.2.1 s.2.1 s.2.2.2) s.2.1 (qF ((M.map Prod.snd).take s.1))::all (evF D)::F) (fun s=>s.1≤D.length∧s.2.1=s.1) (fun s=>D.length - s.1) (0,0,none,0) ?_ ⟨anq _,rfl⟩ ?_
  ·exact (df ba 39 Z).trans (af 2 [1,0] Z)
  rintro ⟨i0,i,A8,c8⟩ ⟨hi,ho2⟩;dsimp only at hi ho2 ⊢;subst ho2;refine akw <| ae Z <| akv <| ad ?_;refine de Z (fun h3=> ?_) (fun h3=> ?_)
  ·obtain ⟨gg,oo,rfl⟩:=q3 (by omega);have hiM:i<M.length:=by omega
   have hx:=am8 hiM;have fx:=G9 hKM hx;have kx:=Ha hKM hx;have xl:=di kx.l32;have x1:=kp kx.d1 kx.r1;have hts:(M.map Prod.snd).take (i+1)=(M.map Prod.snd).take i ++ [M[i].2]:=by
    rw [ang (by rw [anf];exact hiM),aox]
   generalize hT:(M.map Prod.snd).take i=T at *;generalize M[i]=x at *;refine ak <| ab <| ad <| am <| akw <| az Z ?_;refine vw 0 (i*39) Z Z Z Z Z Z Z (by rw [bq,am6]) (by omega) fx (by rw [xl];rfl) ?_;refine db Z Z Z Z Z fun g7=> ?_;refine fh 0 Z Z Z Z Z Z Z xl x1 (by rw [xl];rfl) ?_;refine akv <| aa <| ae Z ?_;refine du 0 Z Z Z Z Z Z (dj (by rw [xl];rfl)) Z ?_;refine lr Z Z Z Z Z Z Z xl (by decide) fun gl=> ?_;refine ef 3 Z Z Z Z Z Z Z Z Z (m:=1) (news:=evC x.2) (fun w H=>(H.blk (k:=0) Z).sl (by rw [xl]) (by decide)) x1 (by omega) (fun _=>rfl) fun v8=> ?_;refine b9 (fun w H=>(H.oat (k:=3) Z).form) ?_;rintro ⟨A9,c9,rfl,_,_,_⟩;refine ae Z <| ac <| bh <| ab <| aa <| az Z <| ae Z <| ac ?_;refine cw (i+1,i+1,A9,c9) ?_ ⟨by dsimp only;omega,rfl⟩;dsimp only;rw [hts,xU];exact af 4 [2,3] Z
  ·obtain rfl:i=D.length:=by omega
   have hall:(M.map Prod.snd).take D.length=M.map Prod.snd:=an1 (by rw [anf];omega);rw [hall];refine bz <| au <| av <| ap <| ab <| akw <| am4 Z Z <| akv <| ai ?_;have hlenS:D.length=(M.map Prod.snd).length:=by rw [anf,hML]
   refine ar Z Z ((af 2 [1] Z).trans (q7 1 Z (fun h hh=>je (Pg hSp.symm) h hh) Z)) ?_;refine ⟨M.map Prod.snd,by rw [← hD];exact Lu g1 g2 rfl,?_⟩;rw [rEs,← hlenS]
   rfl
end

section
variable {α:Type} {f:α→List Value} {l:List α} {sz:Nat}
theorem hZ (h:∀ a∈l,(f a).length=sz) (i:Nat):(flC f l).take (i*sz)=flC f (l.take i):=by
 induction l generalizing i with
 | nil => simp [flC]
 | cons x l ih =>
  have h1:=h x anl;cases i with
  | zero => simp [flC]
  | succ i =>
   simp only [flC,List.take_succ_cons,← ih (fun w hw=>h w (ank _ hw)) i];rw [ap1,Nat.add_comm,← h1,aq4]
end
section
variable {b:World} {F:List SP} {l:List Ev}
end

section
variable {b:World} {F:List SP} {A:Option Addr} {c n:Nat}
theorem Ph {D:List (Nat × Ev)} (hD:∀ (j:Nat) (x:Nat × Ev),D[j]? = some x→x.1=j) (hE:∀ m∈D,∀ w,Sat b F w→ER w m.2) (hK:∀ m∈D,EvK m.2) (hn:D.length=n) (hm:n≤19) :
  SC Tryz.prog iv [.slice A n c,Ai] b (rPl A c n D::F) (fun _ F'=>∃ M,M.Perm D∧Srt zk M∧F'=rPl A c n M::F):=by
 have hp:D.Pairwise fun x y=>x.1<y.1:=aou.2 fun i j hi hj hij=>by
  rw [hD i _ (am8 hi),hD j _ (am8 hj)];exact hij
 have hst:SC Tryz.prog r7 [.slice A n c,ii n,Ai] b (rPl A c n D::F) (fun _ F'=>∃ M,M.Perm D∧Srt zk M∧F'=rPl A c n M::F):=by
  have hin:=Du (b:=b) (F:=F) (A:=A) (c:=c) (n:=n) (P:= []) (L:=D) (B:= []) (a:=0) (z:=n) (by simpa using hE) (by simpa using hK) (by simpa using hn) (by omega) Z (by omega) hp;simp only [aos,anv] at hin;refine aw Tryz.func242 Z Z Z <| akw <| ae Z <| aan <| am5 Z Z Z <| akv <| ad <| am <| dt (S:=Unit) (fun _=> [(0,.slice A n c),(1,ii n),(2,Ai),(6,ii 20),(7,ii 0),(8,ii 20)]) (fun _=>rPl A c n D::F) (fun _=>True) (fun _=>0) () ax trivial ?_;intro _ _;refine ad <| akw <| am5 Z Z Z <| akv ?_;refine de Z (fun h1=>by omega) (fun h1=> ?_);refine bz <| au <| av <| ap <| ab <| akw <| am5 Z Z Z <| ae Z <| bf Z Z Z (hin) ?_;rintro _ _ ⟨M,g1,g2,rfl⟩;refine akv <| am <| dt (S:=Unit) (fun _=> [(0,.slice A n c),(1,ii n),(2,Ai),(6,ii 20)]) (fun _=>rPl A c n M::F) (fun _=>True) (fun _=>0) () ax trivial ?_;intro _ _;refine ad <| akw <| am5 Z Z Z <| akv ?_;refine de Z (fun h2=>by omega) (fun h2=> ?_);refine bz <| au <| av <| ap <| jb Z .nil ax ?_;exact ⟨M,g1,g2,rfl⟩
 refine aw Tryz.func162 Z Z Z <| aa <| am5 Z Z Z <| ae Z <| bf Z Z Z (hst) ?_;rintro _ _ ⟨M,g1,g2,rfl⟩;refine ac <| jb Z .nil ax ?_;exact ⟨M,g1,g2,rfl⟩
theorem Pi {l:List Ev} {v:Value} (hl:∀ w,Sat b F w→EL w v l) (hk:∀ e∈l,EvM e) (hn:l.length≤12) :
  SC Tryz.prog lR [v] b F (fun u F'=>∃ D,tW (l.map nE) (D.map nE)∧F'=rEs u D::all (evF D)::F):=Y3 (fun h1 h2 h3 h4 h5=>Ph h1 h2 h3 h4 (by omega)) hl hk (by omega)
end
end Go.Proofs.YtbpdffopjkhelaaGreat
