/- The top law of uploads, part seven: what sweeps leave, plainly. Conditions: stated in each. -/
import Derived.Test.YtbfailbgdnpaiaaGreatDoorX11
import Derived.Test.YtbfailbgdnpaiaaGreatDoorX10
import Derived.Test.YtbfailbgdnpaiaaGreatDoorX7
import Derived.Test.YtbfailbgdnpaiaaGreatDoorX3
set_option maxRecDepth 20000
set_option maxHeartbeats 8000000
namespace Go.Proofs.YtbfailbgdnpaiaaGreatDoor
open Go Go.Eng Go.RowKit Go.WideMaps Go.Heap

theorem uS {A B:List (List Int)} (hA:A.Nodup) (hB:B.Nodup) (h:∀ x,x∈A↔x∈B):A.length=B.length:=((List.perm_ext_iff_of_nodup hA hB).2 h).length_eq
theorem Dv {A B:List (List Int)} (hA:A.Pairwise leM) (hB:B.Pairwise leM) (nA:A.Nodup) (nB:B.Nodup) (h:∀ x,x∈A↔x∈B) (hi:∀ x∈A,idOk x):A=B :=
 Im hA hB nA nB h fun x hx y hy=>Rd (nI (hi x hx)) (nI (hi y hy))
section
variable {w u:Int} {l:List Kp} {L:List Ql} {Ls:List (List Int)} {cf X Y:List Int}
structure pR (w:Int) (Ls:List (List Int)) (cf X Y:List Int) (l:List Kp) (u:Int) (L:List Ql):Prop where
 k:StK l u
 q:LkI L
 i:∀ x,x∈l.map Kp.id↔x=dq (dt Y) w∨x∈dq (dt X) w::yk w Ls cf
 ne:∀ x∈dq (dt X) w::yk w Ls cf,x≠dq (dt Y) w
 f:Gz w Ls cf l
 r:∃ e,eq (dq (dt Y) w) l=some e∧e.b=Y
 L:∃ L0:List Ql,∃ n,L=L0 ++ [⟨dq (dt Y) w,n⟩]∧(∀ x,x∈L0.map Ql.id→x∈yk w Ls cf)
theorem pR.fgA (h:pR w Ls cf X Y l u L):∃ L0:List Ql,YtbfailbgdnpaiaaGreatDoor.fgA [dq (dt Y) w] L=L0∧L0.length+1=L.length∧∀ x,x∈L0.map Ql.id→x∈yk w Ls cf:=by
 obtain ⟨L0,n,rfl,h2⟩:=h.L;refine ⟨L0,?_,by simp,h2⟩;unfold YtbfailbgdnpaiaaGreatDoor.fgA;rw [ari,aq9.2 (fun e he=> ?_)]
 ·simp
 ·have:e.id≠dq (dt Y) w:=h.ne _ (.tail _ (h2 _ (asz he)));simpa using this
theorem pR.swp0 (h:pR w Ls cf X Y l u L) {l':List Kp} {u':Int} {L':List Ql} (hs:Swp l l' u' L L' []):pR w Ls cf X Y l' u' L':=by
 have hf:∀ x,eq x l'=eq x l:=fun x=>hs.f x (by simp)
 refine ⟨hs.k,hs.q,fun x=> ?_,h.ne,⟨?_,fun y hy=> ?_⟩,?_,?_⟩
 ·rw [hs.i,h.i];simp
 ·rw [hf];exact h.f.x
 ·rw [hf];exact h.f.a y hy
 ·rw [hf];exact h.r
 ·rw [hs.L,Ji];exact h.L
structure Mc (w:Int) (Ls:List (List Int)) (cf X:List Int) (l:List Kp) (u:Int) (L:List Ql):Prop where
 k:StK l u
 q:LkI L
 i:∀ x,x∈l.map Kp.id↔x∈dq (dt X) w::yk w Ls cf
 f:Gz w Ls cf l
 L:∀ x,x∈L.map Ql.id→x∈yk w Ls cf
theorem pR.swp1 (h:pR w Ls cf X Y l u L) (hX:mfB (tp w Ls cf)=X) {l':List Kp} {u':Int} {L':List Ql} (hs:Swp l l' u' L L' [dq (dt Y) w]):Mc w Ls cf X l' u' L'∧L'.length+1=L.length:=by
 obtain ⟨L0,h1,h2,h3⟩:=h.fgA;have hf:∀ x,x≠dq (dt Y) w→eq x l'=eq x l:=fun x hx=>hs.f x (by simpa using hx)
 refine ⟨⟨hs.k,hs.q,fun x=> ?_,⟨?_,fun y hy=> ?_⟩,?_⟩,by rw [hs.L,h1];exact h2⟩
 ·rw [hs.i,h.i]
  constructor
  ·rintro ⟨q | q,hn⟩
   ·exact absurd (by simpa using q) hn
   ·exact q
  ·exact fun q=>⟨.inr q,by simpa using h.ne x q⟩
 ·rw [hf _ (h.ne _ (by rw [hX];exact .head _))];exact h.f.x
 ·rw [hf _ (h.ne _ (.tail _ ?_))]
  ·exact h.f.a y hy
  ·unfold yk;refine ap8.2 ⟨y,?_,rfl⟩;rcases hy with hy | rfl
   ·exact .tail _ hy
   ·exact .head _
 ·rw [hs.L,h1];exact h3
theorem Mc.swp (h:Mc w Ls cf X l u L) {O:List (List Int)} (hO:∀ x,x∈O↔x∈l.map Kp.id) {l':List Kp} {u':Int} {L':List Ql} (hs:Swp l l' u' L L' O):u'=0∧L' = []:=by
 have hl:l' = []:=by
  cases l' with
  | nil => rfl
  | cons e l' =>
   have h1:=(hs.i e.id).1 (.head _);exact absurd ((hO _).2 h1.1) h1.2
 refine ⟨by rw [hs.k.u,hl];rfl,?_⟩;rw [hs.L];unfold YtbfailbgdnpaiaaGreatDoor.fgA;rw [List.filter_eq_nil_iff];intro e he;have:e.id∈O:=(hO _).2 ((h.i _).2 (.tail _ (h.L _ (asz he))));simpa using this
theorem pR.count (h:pR w Ls cf X Y l u L) {l':List Kp} {u':Int} {L':List Ql} (h':Mc w Ls cf X l' u' L') {A O:List (List Int)} (nA:A.Nodup) (hA:∀ x,x∈A↔x∈l.map Kp.id) (nO:O.Nodup) (hO:∀ x,x∈O↔x∈l'.map Kp.id):A.length=O.length+1:=by
 have hn:(dq (dt Y) w::O).Nodup:=asb.2 ⟨fun q=>h.ne _ ((h'.i _).1 ((hO _).1 q)) rfl,nO⟩;refine uS nA hn fun x=> ?_;rw [hA,h.i];exact ⟨fun q=>ap1.2 (q.imp id fun q=>(hO x).2 ((h'.i x).2 q)),fun q=>(ap1.1 q).imp id fun q=>(h'.i x).1 ((hO x).1 q)⟩
theorem Shp.full (h:nU w Ls cf) (H:Shp w l u L) (hn:l.length≤20) (hc:∀ y,(∃ e∈l,e.b=y)↔y∈Ls∨y=cf) (hX:mfB (tp w Ls cf)=X) (hX4:X.length≤4096) (hY4:Y.length≤4096)
  (hx:eq (dq (dt X) w) l=none) (hy:eq (dq (dt Y) w) l=none) (hne:dq (dt X) w≠dq (dt Y) w) {l1 l2:List Kp} {u1 u2:Int} (h1:YtbfailbgdnpaiaaGreatDoor.arr (dq (dt X) w) X l l1 u u1) (h2:YtbfailbgdnpaiaaGreatDoor.arr (dq (dt Y) w) Y l1 l2 u1 u2) :
  pR w Ls cf X Y l2 u2 (lkA (dq (dt Y) w) Y.length L):=by
 obtain ⟨_,⟨g1,v1,rfl⟩,rfl⟩:=h1.resolve_right fun q=>by
  obtain ⟨⟨e,q,_⟩,_⟩:=q;rw [hx] at q;cases q
 have hy1:eq (dq (dt Y) w) (l ++ [(⟨dq (dt X) w,X,g1,v1⟩:Kp)])=none:=by
  rw [u7,hy];exact if_neg hne
 obtain ⟨_,⟨g2,v2,rfl⟩,rfl⟩:=h2.resolve_right fun q=>by
  obtain ⟨⟨e,q,_⟩,_⟩:=q;rw [hy1] at q;cases q
 have hnd:∀ {A:List (List Int)} {x:List Int},A.Nodup→x∉A→(A ++ [x]).Nodup:=fun {A x} h1 h2=>by
  rw [atk];exact ⟨h1,by simp,fun a ha y hy q=>h2 (by rw [apy] at hy;rw [← hy,← q];exact ha)⟩
 have mem_none:∀ {x:List Int} {l:List Kp},eq x l=none→x∉l.map Kp.id:=fun {x l} hf hm=>by
  obtain ⟨e,he,q⟩:=ap8.1 hm;exact jU hf e he q
 have hnX:=mem_none hx;have hnY:=mem_none hy;have hnY1:=mem_none hy1;have hids:∀ x,x∈l.map Kp.id↔x∈yk w Ls cf:=fun x=>by
  unfold yk;rw [ap8,ap8]
  constructor
  ·rintro ⟨e,he,rfl⟩;refine ⟨e.b,?_,(H.d e he).symm⟩;rcases (hc e.b).1 ⟨e,he,rfl⟩ with q | q
   ·exact .tail _ q
   ·rw [q];exact .head _
  ·rintro ⟨y,hy,rfl⟩;obtain ⟨e,he,rfl⟩:=(hc y).2 ((ap1.1 hy).elim .inr .inl);exact ⟨e,he,H.d e he⟩
 have hLk:dq (dt Y) w∉L.map Ql.id:=by rw [H.m];exact hnY
 have hlk:lkA (dq (dt Y) w) Y.length L=L ++ [⟨dq (dt Y) w,Y.length⟩]:=by unfold lkA;rw [if_neg hLk]
 have hfa:∀ y,y∈Ls∨y=cf→∃ e,eq (dq (dt y) w) l=some e∧e.b=y:=fun y hy=>by
  obtain ⟨e,he,rfl⟩:=(hc y).2 hy;exact ⟨e,by rw [← H.d e he];exact lI H.k.nd he,rfl⟩
 have hup:∀ {x:List Int} {e:Kp},eq x l=some e→eq x (l ++ [(⟨dq (dt X) w,X,g1,v1⟩:Kp)] ++ [(⟨dq (dt Y) w,Y,g2,v2⟩:Kp)])=some e:=fun {x e} q=>by
  rw [u7,u7,q]
 rw [hlk];refine ⟨⟨fun e he=> ?_,?_,fun e he=> ?_,?_,?_⟩,⟨?_,fun e he=> ?_,?_⟩,fun x=> ?_,fun x hx1=> ?_,⟨?_,fun y hy=> ?_⟩,?_,⟨L,_,rfl,fun x hx1=> ?_⟩⟩
 ·rcases ap6.1 he with he | he
  ·rcases ap6.1 he with he | he
   ·exact H.k.id e he
   ·rw [apy.1 he];exact jv _ _
  ·rw [apy.1 he];exact jv _ _
 ·rw [aqa];refine hnd ?_ hnY1;rw [aqa];exact hnd H.k.nd hnX
 ·rcases ap6.1 he with he | he
  ·rcases ap6.1 he with he | he
   ·exact H.k.b e he
   ·rw [apy.1 he];exact hX4
  ·rw [apy.1 he];exact hY4
 ·rw [H.k.u];simp [zM];omega
 ·simp;omega
 ·rw [aqa];exact hnd H.q.nd hLk
 ·rcases ap6.1 he with he | he
  ·exact H.q.n e he
  ·rw [apy.1 he];exact ⟨by simp,by show (Y.length:Int)≤4096;omega⟩
 ·have:=ap2 List.length H.m;simp at this ⊢;omega
 ·rw [aqa,aqa,ap6,ap6,hids];simp only [aqt,as9,ap1,arj,or_false]
  constructor
  ·rintro ((q | q) | q)
   ·exact .inr (.inr q)
   ·exact .inr (.inl q)
   ·exact .inl q
  ·rintro (q | q | q)
   ·exact .inr q
   ·exact .inl (.inr q)
   ·exact .inl (.inl q)
 ·rcases ap1.1 hx1 with rfl | hx1
  ·exact hne
  ·exact fun q=>hnY ((hids _).2 (q▸hx1))
 ·rw [hX,u7,u7,hx];exact ⟨⟨dq (dt X) w,X,g1,v1⟩,by simp,rfl⟩
 ·obtain ⟨e,e1,e2⟩:=hfa y hy;exact ⟨e,hup e1,e2⟩
 ·rw [u7,hy1];exact ⟨⟨dq (dt Y) w,Y,g2,v2⟩,by simp,rfl⟩
 ·rw [H.m] at hx1;exact (hids x).1 hx1
end

theorem oc {a c:List Int} (h:jd a) (h2:jd c):jd (a++c):=fun x hx=>(ap6.1 hx).elim (h x) (h2 x)
theorem Dw {d:Dc} (h:DcN d):jd (dcB d):=oc (ou _) (oc (nI h.id) (oc (ou _) (oc (ou _) (Hx _))))
theorem Dx {m:Mf} (h:MfN m):jd (mfB m):=by
 refine oc (ou _) (oc (ou _) (oc (oc (ou _) (Hx _)) (oc ?_ (oc (ou _) fun x hx=> ?_))))
 ·split
  ·exact Dw h.c
  ·exact fun x hx=>by cases hx
 ·obtain ⟨d,hd,hx⟩:=as3.1 hx;exact Dw (h.l d hd) x hx
theorem Re {id xs y:List Int} {l l':List Kp} {u u':Int} (h:arr id xs l l' u u') (hy:eq y l=none) (hne:id≠y):eq y l'=none:=by
 rcases h with ⟨_,⟨g,v,rfl⟩,_⟩ | ⟨_,rfl,_⟩
 ·rw [u7,hy];exact if_neg hne
 ·exact hy
def sAB:ByteArray:=⟨#[97,47,98]⟩
theorem Rf:jk (dz sAB)=(0,0):=by decide +kernel
section
variable {b:World} {F:List SP} {gx gs gm gq gl gu gv c k1 k2 c1 c2:Nat} {A A1 A2:Option Addr} {w r u lim nx:Int} {l:List Kp} {L:List Ql} {h vb:Value} {Ls:List (List Int)} {cf:List Int} {m:Mf}
set_option maxHeartbeats 16000000 in
theorem Vy (hI:nU w Ls cf) (H:Shp w l u L) (hn:l.length≤20) (hc:∀ y,(∃ e∈l,e.b=y)↔y∈Ls∨y=cf) (hr:r=67108864) (hlim:lim=1099511627776) (hv:∀ W,Sat b F W→VL (Value.int .u8) W vb (mfB (tp w Ls cf))) (hm:m.cfg0.id.length=32) :
  SC Tryz.prog za [shV w gx gs gq,vb,.agg ⟨mfC m (.slice A1 k1 c1) (.slice A2 k2 c2)⟩] b (shP gx w nx A c gs gm r u l gq gl gu gv lim h sAB L F) (fun v F'=>v = .bool true∧F'=F):=by
 have hw:=hI.wd;have hX4:(mfB (tp w Ls cf)).length≤4096:=hI.ok.W.n.b;have hXl:∀ x,x∈Ls∨x=cf→x≠mfB (tp w Ls cf):=fun x hx=>hI.long hx
 have hbX:jd (mfB (tp w Ls cf)):=Dx hI.ok.W.n;have hce:dH w=0:=by unfold dH;rw [if_neg (by omega)]
 generalize hX:mfB (tp w Ls cf)=X at *;have hid:idOk (dq (dt X) w):=jv _ _;refine ao Tryz.func18 Z Z Z <| bu (fun w H=>(hv w (H.ent (af 10 [] Z))).form) ?_;rintro ⟨bA,bc,rfl,b1,b2,b3,b4⟩;refine qb (af 10 [3,4,5,6,7,8,9] Z) <| anf <| br Z Z Z Z Z fun g3=>br Z Z Z Z Z fun g5=>ae Z <| aby <| apn Z Z <| ba 1 Z Z Z <| au Z Z Z (Kk (xs:=X) (w:=w) (by omega) (up hv (af 9 [] Z))) ?_
 rw [hce];refine apo Z Z Z <| bq Z Z Z Z Z fun g7=> ?_
 skip
 refine eh 0 Z Z Z Z Z Z Z (by rw [bz,hid.1];rfl) (ec _) (by simp [hid.1]) ?_;refine ae Z <| aby <| ae Z <| ba 2 Z Z Z <| b7 0 Z Z Z Z Z Z (ek hid.1) Z ?_;cases hfx:eq (dq (dt X) w) l with
 | some e =>
  have heb:e.b≠X:=by
   have he:=uz hfx;exact hXl _ ((hc e.b).1 ⟨e,he.1,rfl⟩)
  refine am Z Z Z ((yd hid hfx (by have:=H.k.b e (uz hfx).1;omega)).ent (af 10 [3,4,5,0,1,2,6,7,8,9] Z)) ?_;rintro _ _ ⟨v1,rfl,rfl⟩;refine b6 (fun w H=>(H.oat (k:=0) Z).form) ?_;rintro ⟨A7,c7,rfl,_,_,_⟩
  (iterate 5 refine ae Z ?_)
  refine ane <| ac <| anf <| apo Z Z Z <| ae Z <| au Z Z Z (fF (vlB (l:=e.b) (k:=0) Z) (up hv (af 11 [] Z)) (H.b e (uz hfx).1) hbX) ?_;rw [aqo heb];refine apn Z Z <| ane <| ar Z <| anf <| ae Z <| ane <| aj <| al <| bh Z Z (af 11 [] Z) ?_;exact ⟨rfl,rfl⟩
 | none =>
  refine am Z Z Z ((sX hid hfx).ent (af 10 [3,4,5,0,1,2,6,7,8,9] Z)) ?_;rintro _ _ ⟨rfl,rfl⟩
  (iterate 5 refine ae Z ?_)
  refine ane <| ac <| anf ?_
  (iterate 7 refine ae Z ?_)
  refine ane <| ai Z <| ah <| ab <| anf <| b7 3 Z Z Z Z Z Z (ek hid.1) Z <| apn Z Z ?_;refine Ez Z Z Z ⟨rfl,(by show (u8s _).length=32;rw [bz,hid.1]),rfl,rfl,trivial⟩ ?_;refine bn 61 (.agg ⟨dcC (uR w X)⟩) Z Z <| bq Z Z Z Z Z fun g11=> ?_
  skip
  refine eh 0 Z Z Z Z Z Z Z (d8 hid.1) jq (by rw [d8 hid.1];rfl) ?_;refine aby ?_;refine b7 0 Z Z Z Z Z Z (cp (by rw [d8 hid.1];rfl)) Z ?_;refine li Z Z Z Z Z Z Z (by rw [d8 hid.1];rfl) (by decide) fun gl2=> ?_;refine ae Z <| bn 65 (.agg ⟨mfC (pQ (uR w X)) (.slice none 0 0) (.slice (some ⟨gl2,0,none⟩) 1 1)⟩) Z Z ?_;refine am Z Z Z (nR (Ra (Dt hX4)) (fun W HH=>⟨SL.nil W 35,by have:=(HH.blk (k:=0) Z).sl (sz:=35) (n:=1) (by rw [d8 hid.1]) (by decide);simpa [flC,pQ] using this⟩)) ?_;rintro _ _ ⟨rv,rfl,rfl⟩;refine b6 (fun w H=>(H.oat (k:=0) Z).form) ?_;rintro ⟨A8,c8,rfl,_,_,_⟩;have hY4:(mfB (pQ (uR w X))).length≤4096:=(Pc (Dt hX4)).b;have hbY:jd (mfB (pQ (uR w X))):=Dx (Pc (Dt hX4));generalize hY:mfB (pQ (uR w X))=Y at *;have hjd:idOk (dq (dt Y) w):=jv _ _;refine eg (af 13 [0,3,4,5,6,8,9,10,11,12] Z) ?_
  (iterate 5 refine ae Z ?_)
  refine aby <| apn Z Z <| ba 5 Z Z Z <| au Z Z Z (Kk (xs:=Y) (w:=w) (by omega) (vlB (l:=Y) (k:=0) Z)) ?_;rw [hce];refine apo Z Z Z <| bq Z Z Z Z Z fun g14=> ?_
  skip
  refine eh 0 Z Z Z Z Z Z Z (by rw [bz,hjd.1];rfl) (ec _) (by simp [hjd.1]) ?_;refine ae Z <| aby <| ae Z <| ba 6 Z Z Z <| b7 0 Z Z Z Z Z Z (ek hjd.1) Z ?_;cases hfy:eq (dq (dt Y) w) l with
  | some e =>
   refine am Z Z Z ((yd hjd hfy (by have:=H.k.b e (uz hfy).1;omega)).ent (af 11 [2,3,4,0,1,5,6,7,8,9,10] Z)) ?_;rintro _ _ ⟨v1,rfl,rfl⟩;refine b6 (fun w H=>(H.oat (k:=0) Z).form) ?_;rintro ⟨A7,c7,rfl,_,_,_⟩
   (iterate 5 refine ae Z ?_)
   refine ane <| ac <| anf ?_
   (iterate 6 refine ae Z ?_)
   refine ane <| ar Z <| anf <| ae Z <| ane <| aj <| al <| bh Z Z (af 12 [] Z) ?_;exact ⟨rfl,rfl⟩
  | none =>
   refine am Z Z Z ((sX hjd hfy).ent (af 11 [2,3,4,0,1,5,6,7,8,9,10] Z)) ?_;rintro _ _ ⟨rfl,rfl⟩
   (iterate 5 refine ae Z ?_)
   refine ane <| ac <| anf <| apn Z Z <| b7 3 Z Z Z Z Z Z (ek hjd.1) Z <| b7 5 Z Z Z Z Z Z (ek hid.1) Z <| j6 Z (xS (as00:=dq (dt Y) w) (bs:=dq (dt X) w) Z Z hjd.1 hid.1) Z <| ae Z <| ane ?_;by_cases hne:dq (dt X) w=dq (dt Y) w
   ·rw [ap5 hne.symm];refine ar Z <| anf <| ae Z <| ane <| aj <| al <| bh Z Z (af 11 [] Z) ?_;exact ⟨rfl,rfl⟩
   rw [aqo fun q=>hne q.symm];refine ai Z <| ah <| ab <| anf <| ae Z <| ba 6 Z Z Z <| b7 5 Z Z Z Z Z Z (ek hid.1) Z <| ae Z ?_;refine am Z Z Z (uP (gs:=gs) (gm:=gm) (w:=w) (r:=r) (u:=u) (l:=l) (up hv (af 8 [] Z)) hX4 hid H.k H.b hbX hr (fun e q=>by rw [hfx] at q;cases q)) ?_;rintro _ _ ⟨t,l1,u1,rfl,ha1,rfl⟩;obtain ⟨H1,hl1,_⟩:=H.arr hid hbX hX4 (by omega) ha1;have hfy1:=Re ha1 hfy hne
   (iterate 5 refine ae Z ?_)
   refine aby <| ae Z <| ba 6 Z Z Z <| b7 3 Z Z Z Z Z Z (ek hjd.1) Z <| ae Z ?_;refine am Z Z Z (uP (gs:=gs) (gm:=gm) (w:=w) (r:=r) (u:=u1) (l:=l1) (vlB (l:=Y) (k:=1) Z) hY4 hjd H1.k H1.b hbY hr (fun e q=>by rw [hfy1] at q;cases q)) ?_;rintro _ _ ⟨t2,l2,u2,rfl,ha2,rfl⟩;have hFu:=H.full (X:=X) (Y:=Y) hI hn hc hX hX4 hY4 hfx hfy hne ha1 ha2
   (iterate 5 refine ae Z ?_)
   refine aby <| ae Z <| ba 6 Z Z Z <| b7 3 Z Z Z Z Z Z (ek hjd.1) Z <| apn Z Z ?_;refine am Z Z Z ((xG (gq:=gq) (gl:=gl) (gu:=gu) (gv:=gv) (lim:=lim) (h:=h) (s:=sAB) (L:=L) (n:=Y.length) (by decide) Rf hjd (by omega) H.q (fun e he q=>absurd (jU hfy) (fun f=>by
    have:dq (dt Y) w∈l.map Kp.id:=by rw [← H.m,← q];exact asz he
    obtain ⟨k,hk,hkk⟩:=ap8.1 this;exact f k hk hkk)) hlim).ent (af 11 [7,8,9,10,0,1,2,3,4,5,6] Z)) ?_
   rintro _ _ ⟨t3,gv2,h2,rfl,rfl⟩;generalize lkA (dq (dt Y) w) (Y.length:Int) L=L2 at *;have hil:(yk w Ls cf).length≤9:=by
    unfold yk;rw [ap9,ap3];have:=hI.n;omega
   have hii:∀ x∈yk w Ls cf,idOk x:=fun x hx=>by
    obtain ⟨y,_,rfl⟩:=ap8.1 hx;exact jv _ _
   clear ha1 ha2 H1 hl1 hfy1 hfx hfy H hc hn
   (iterate 5 refine ae Z ?_)
   refine ane <| ac <| anf ?_
   (iterate 14 refine ae Z ?_)
   refine ane <| ai Z <| ah <| ab <| anf <| ae Z <| ba 10 Z Z Z <| b7 7 Z Z Z Z Z Z (ek hjd.1) Z ?_;refine am Z Z Z ((P8 (gs:=gs) (gm:=gm) (w:=w) (r:=r) (u:=u2) (l:=l2) hjd (Rc hI hFu.f hX hY hX4 hFu.r) (by rw [ap3,ap3];omega)).ent (af 11 [4,5,6,0,1,2,3,7,8,9,10] Z)) ?_;rintro _ _ ⟨o1,M1,rfl,m1,m2,m3,rfl⟩;refine b6 (fun w H=>(H.oat (k:=0) Z).form) ?_;rintro ⟨A9,c9,rfl,_,_,_⟩;refine apo Z Z Z <| ae Z <| bq Z Z Z Z Z fun g25=>ae Z <| cg 0 Z Z Z Z <| ae Z <| aby <| ae Z <| ba 12 Z Z Z <| eg (af 13 [2,3,4,1,5,6,7,8,9,11,12] Z) ?_
   have hl2:=hFu.k.n;refine am Z Z Z (Od (l:=l2) (fun e he=>hFu.k.id e he) (by omega)) ?_;rintro _ _ ⟨Aw,cw,W1,rfl,q1,q2,rfl⟩;rw [Qz];have hW1:M1=W1:=Dv m3 q1 m1 (q2.nodup_iff.2 hFu.k.nd) (fun x=>by rw [m2,q2.mem_iff,hFu.i,ap1]) (fun x hx=>by
    rcases ap1.1 ((m2 x).1 hx) with rfl | hx
    ·exact hjd
    ·rcases ap1.1 hx with rfl | hx
     ·exact hid
     ·exact hii x hx)
   have hWn:W1.length=l2.length:=by rw [q2.length_eq,ap9]
   have hWi:∀ x∈W1,idOk x:=fun x hx=>by
    obtain ⟨e,he,rfl⟩:=ap8.1 (q2.mem_iff.1 hx);exact hFu.k.id e he
   refine ae Z <| ane <| ac <| qb (af 12 [1,2,3,5,6,7,8,9,11,0,4,10] Z) ?_;have hMark:=fun (F':List SP) (gk:Nat)=>P9 (b:=b) (F:=F') (gl:=gk) (gs:=gs) (gm:=gm) (w:=w) (r:=r) (u:=u2) (l:=l2) (by omega) hjd (Mb hI hFu.f hX hY hX4 hFu.r hFu.ne) (by rw [ap3,ap3];omega)
   have hSweep:∀ (F':List SP) (v:Value) (D1:List (List Int)),D1.Nodup→(∀ x,x∈D1↔x∈dq (dt Y) w::dq (dt X) w::yk w Ls cf)→(∀ w,Sat b F' w→SL w 32 v D1.length (flC u8s D1))→SC Tryz.prog zd [pp gs,pp gq,v] b (stB gs gm w r u2 l2 (stQ gq gl gu gv2 lim h2 sAB L2 F')) (fun v F''=>∃ o O l' u' L' h',v = .tuple ⟨[.agg ⟨[o,ii (u2 - u'),ii ((L2.length:Int) - L'.length)]⟩,ii 0]⟩∧(O = []∧pR w Ls cf X Y l' u' L')∧F''=rJ o O::stB gs gm w r u' l' (stQ gq gl gu gv2 lim h' sAB L' F')):=by
    intro F' v D1 d1 d2 hv;have hD1:∀ x,x∈D1↔x∈l2.map Kp.id:=fun x=>by rw [d2,hFu.i,ap1]
    have hD1n:D1.length=l2.length:=by rw [uS d1 hFu.k.nd hD1,ap9]
    refine (zN (by omega) (by decide) (by decide) hFu.k hFu.q hv (fun x hx=>by
     obtain ⟨e,he,rfl⟩:=ap8.1 ((hD1 x).1 hx);exact hFu.k.id e he) (by omega)).mono ?_
    rintro _ _ ⟨o2,O1,l3,u3,L3,h3,rfl,p1,p2,p3,hS1,rfl⟩;have hO1:O1 = []:=by
     rw [as7];exact fun x hx=>((p3 x).1 hx).2 ((hD1 x).2 ((p3 x).1 hx).1)
    subst hO1;exact ⟨_,_,_,_,_,_,rfl,⟨rfl,hFu.swp0 hS1⟩,rfl⟩
   refine cK flo 16 (pt g14 t_api_ID (u8s (dq (dt Y) w))::pt g3 ey [ii w,pp gx,pp gs,pp gq]::F) (by kernel_rfl) Z (af 12 [7,8] Z) ?_;refine ve (T:=Nat × Value × List (List Int) × List Kp × Int × List Ql × Value) 12 [10,11,12,14,15] (fun z=> [(3,pp g3),(7,pp g7),(14,pp g14),(24,.slice A9 M1.length c9),(26,ii 0),(27,.slice Aw W1.length cw),(28,pp z.1),(149,.tuple ⟨[.agg ⟨[z.2.1,ii (u2 - z.2.2.2.2.1),ii ((L2.length:Int) - z.2.2.2.2.2.1.length)]⟩,ii 0]⟩)])
    (fun z=>pt z.1 ky [.slice none 0 0,ii 0,ii 0]::rJ z.2.1 z.2.2.1::stB gs gm w r z.2.2.2.2.1 z.2.2.2.1 (stQ gq gl gu gv2 lim z.2.2.2.2.2.2 sAB z.2.2.2.2.2.1 (pt g14 t_api_ID (u8s (dq (dt Y) w))::pt g3 ey [ii w,pp gx,pp gs,pp gq]::rJ (.slice Aw W1.length cw) W1::rJ (.slice A9 M1.length c9) M1::pt g7 t_api_ID (u8s (dq (dt X) w))::F))) (fun z=>z.2.2.1 = []∧pR w Ls cf X Y z.2.2.2.1 z.2.2.2.2.1 z.2.2.2.2.2.1) ?_ (fun J=> ?_)
   ·rintro ⟨g28,o2,O1,l3,u3,L3,h3⟩ hP;dsimp only at hP ⊢;refine my (14,[10,11]) [] (by kernel_rfl) ⟨i6 10 2 (L2:= []) Z Z ?_,trivial⟩;refine bj Z Zl <| bj Z Zl <| ap <| pk (af 14 [9,10] Z) <| fz _ Z av <| lh (fun w H=>(H.oat (k:=1) Z).form) ?_;rintro ⟨A11,c11,rfl,_,_,_⟩;refine qc 0 Z Z Z Z Z Z Z Z Z Z Z Z (af 14 [9,10] Z) ?_;refine ap (ip (af 14 [9,10] Z) (kN 12 1 15 1 (by kernel_rfl) (by kernel_rfl) Z ?_));refine bj Z Zl <| ap <| Nm Z (af 14 [9,10] Z) <| bj Z Zl <| ap ?_;obtain ⟨rfl,hF3⟩:=hP;refine ab <| ac <| anf ?_
    (iterate 8 refine ae Z ?_)
    refine ba 0 Z Z Z ?_
    (iterate 6 refine ae Z ?_)
    refine au Z Z Z (gL (l:=W1) (fun w H=>by rw [yz];subst hW1;exact (H.oat (k:=12) Z).sl) (fun w H=>by rw [yz];exact (H.oat (k:=11) Z).sl) (fun x hx=>(hWi x hx).1) (by omega)) ?_;refine apn Z Z <| ane <| ai Z <| ah <| ab <| ac <| qb (af 14 [2,3,4,5,6,7,8,13,10,9] Z) ?_;have hl3:=hF3.k.n;have hir:=xH (b:=b) (gs:=gs) (gm:=gm) (r:=r) (u:=u3) (dep:=1) hI hF3.f (by decide);rw [hX] at hir;have hMark2:=fun (F':List SP) (gk:Nat)=>P9 (b:=b) (F:=F') (gl:=gk) (gs:=gs) (gm:=gm) (w:=w) (r:=r) (u:=u3) (l:=l3) (by omega) hid hir (by rw [ap3];omega)
    have hSweep2:∀ (F':List SP) (v:Value) (D1:List (List Int)),D1.Nodup→(∀ x,x∈D1↔x∈dq (dt X) w::yk w Ls cf)→(∀ w,Sat b F' w→SL w 32 v D1.length (flC u8s D1))→SC Tryz.prog zd [pp gs,pp gq,v] b (stB gs gm w r u3 l3 (stQ gq gl gu gv2 lim h3 sAB L3 F')) (fun v F''=>∃ o O l' u' L' h',v = .tuple ⟨[.agg ⟨[o,ii (u3 - u'),ii ((L3.length:Int) - L'.length)]⟩,ii 0]⟩∧(O = [dq (dt Y) w]∧Mc w Ls cf X l' u' L'∧L'.length+1=L3.length)∧F''=rJ o O::stB gs gm w r u' l' (stQ gq gl gu gv2 lim h' sAB L' F')):=by
     intro F' v D1 d1 d2 hv;have hne1:dq (dt Y) w∉D1:=fun q=>hF3.ne _ ((d2 _).1 q) Z
     have hD1n:D1.length+1=l3.length:=by
      have:=uS (A:=dq (dt Y) w::D1) (B:=l3.map Kp.id) (asb.2 ⟨hne1,d1⟩) hF3.k.nd (fun x=>by rw [hF3.i,ap1,d2]);rw [ap9,ap3] at this;exact this
     refine (zN (by omega) (by decide) (by decide) hF3.k hF3.q hv (fun x hx=>by
      rcases ap1.1 ((d2 x).1 hx) with rfl | hx
      ·exact hid
      ·exact hii x hx) (by omega)).mono ?_
     rintro _ _ ⟨o3,O2,l4,u4,L4,h4,rfl,p1,p2,p3,hS2,rfl⟩;have hO2:O2 = [dq (dt Y) w]:=by
      refine List.perm_singleton.1 ((List.perm_ext_iff_of_nodup p2 (asb.2 ⟨by simp,.nil⟩)).2 fun x=> ?_);rw [p3,hF3.i,d2,apy];exact ⟨fun q=>q.1.resolve_right q.2,fun q=>⟨.inl q,fun q2=>hF3.ne x q2 q⟩⟩
     subst hO2;obtain ⟨e1,e2⟩:=hF3.swp1 hX hS2;exact ⟨_,_,_,_,_,_,rfl,⟨rfl,e1,e2⟩,rfl⟩
    refine cK flo 16 (pt g7 t_api_ID (u8s (dq (dt X) w))::pt g3 ey [ii w,pp gx,pp gs,pp gq]::F) (by kernel_rfl) Z (af 10 [7,8] Z) ?_;refine ve (T:=Nat × Value × List (List Int) × List Kp × Int × List Ql × Value) 12 [10,11,12,14,15] (fun z=> [(3,pp g3),(7,pp g7),(14,pp g14),(27,.slice Aw W1.length cw),(30,pp z.1),(180,.tuple ⟨[.agg ⟨[z.2.1,ii (u3 - z.2.2.2.2.1),ii ((L3.length:Int) - z.2.2.2.2.2.1.length)]⟩,ii 0]⟩)])
     (fun z=>pt z.1 ky [.slice none 0 0,ii 0,ii 0]::rJ z.2.1 z.2.2.1::stB gs gm w r z.2.2.2.2.1 z.2.2.2.1 (stQ gq gl gu gv2 lim z.2.2.2.2.2.2 sAB z.2.2.2.2.2.1 (pt g7 t_api_ID (u8s (dq (dt X) w))::pt g3 ey [ii w,pp gx,pp gs,pp gq]::pt g14 t_api_ID (u8s (dq (dt Y) w))::F))) (fun z=>z.2.2.1 = [dq (dt Y) w]∧Mc w Ls cf X z.2.2.2.1 z.2.2.2.2.1 z.2.2.2.2.2.1∧z.2.2.2.2.2.1.length+1=L3.length) ?_ (fun J=> ?_)
    ·rintro ⟨g30,o3,O2,l4,u4,L4,h4⟩ hP;dsimp only at hP ⊢;refine my (14,[10,11]) [] (by kernel_rfl) ⟨i6 10 2 (L2:= []) Z Z ?_,trivial⟩;refine bj Z Zl <| bj Z Zl <| ap <| pk (af 12 [9,10] Z) <| fz _ Z av <| lh (fun w H=>(H.oat (k:=1) Z).form) ?_;rintro ⟨A12,c12,rfl,_,_,_⟩;refine qc 0 Z Z Z Z Z Z Z Z Z Z Z Z (af 12 [9,10] Z) ?_;refine ap (ip (af 12 [9,10] Z) (kN 12 1 15 1 (by kernel_rfl) (by kernel_rfl) Z ?_));refine bj Z Zl <| ap <| Nm Z (af 12 [9,10] Z) <| bj Z Zl <| ap ?_;obtain ⟨rfl,hO,hLn⟩:=hP;refine ab <| anf <| ae Z <| ba 10 Z Z Z <| b7 9 Z Z Z Z Z Z (ek hid.1) Z ?_;have hiw:=Du (b:=b) (gs:=gs) (gm:=gm) (r:=r) (u:=u4) (d:=dsI (dq (dt X) w)) (fi:=true) (dep:=1) hI hO.f (by rw [hX]) Zl (by decide);rw [hX] at hiw;have hl4:=hO.k.n;refine am Z Z Z ((P8 (gs:=gs) (gm:=gm) (w:=w) (r:=r) (u:=u4) (l:=l4) hid hiw (by rw [ap3];omega)).ent (af 12 [2,3,4,0,1,5,6,7,8,9,10,11] Z)) ?_;rintro _ _ ⟨o4,M2,rfl,n1,n2,n3,rfl⟩;refine b6 (fun w H=>(H.oat (k:=0) Z).form) ?_;rintro ⟨A13,c13,rfl,_,_,_⟩;refine apo Z Z Z <| ae Z <| bq Z Z Z Z Z fun g33=>ae Z <| cg 0 Z Z Z Z <| ae Z <| ane <| ac <| anf ?_
     (iterate 8 refine ae Z ?_)
     refine ba 5 Z Z Z <| b7 13 Z Z Z Z Z Z (ek hjd.1) Z ?_;refine li Z Z Z Z Z Z Z (by rw [bz,hjd.1];rfl) (by decide) fun g34=> ?_;refine au Z Z Z (gL (l:= [dq (dt Y) w]) (fun w H=>by rw [yz];exact (H.oat (k:=7) Z).sl) (fun W HH=>by have:=(HH.blk (k:=0) Z).sl (sz:=32) (n:=1) (by rw [bz,hjd.1]) (by decide);simpa [q6] using this) (fun x hx=>by rw [apy.1 hx];exact hjd.1) (by simp)) ?_;refine apo Z Z Z <| ae Z <| ba 6 Z Z Z <| apo Z Z Z <| bn 210 (.bool false) Z (ap2 (fun x=>Value.bool (!x)) (ap5 (by omega))) <| apn Z Z <| ba 13 Z Z Z <| am Z Z Z ((Od (l:=l4) (fun e he=>hO.k.id e he) (by omega)).ent (af 15 [3,4,5,0,1,2,6,7,8,9,10,11,12,13,14] Z)) ?_;rintro _ _ ⟨Ax,cx,W2,rfl,q3,q4,rfl⟩;rw [Qz];have hW2n:W2.length=l4.length:=by rw [q4.length_eq,ap9]
     have hW2i:∀ x∈W2,idOk x:=fun x hx=>by
      obtain ⟨e,he,rfl⟩:=ap8.1 (q4.mem_iff.1 hx);exact hO.k.id e he
     have hM2:M2=W2:=Dv n3 q3 n1 (q4.nodup_iff.2 hO.k.nd) (fun x=>by rw [n2,q4.mem_iff,hO.i]) (fun x hx=>by
      rcases ap1.1 ((n2 x).1 hx) with rfl | hx
      ·exact hid
      ·exact hii x hx)
     refine au Z Z Z (gL (l:=W2) (fun w H=>by rw [yz];subst hM2;exact (H.oat (k:=6) Z).sl) (fun w H=>by rw [yz];exact (H.oat (k:=0) Z).sl) (fun x hx=>(hW2i x hx).1) (by omega)) ?_;refine apn Z Z <| ane <| ai Z <| ah <| ab <| anf <| ae Z <| ba 14 Z Z Z <| ae Z <| ba 14 Z Z Z ?_;refine am Z Z Z ((zN (gs:=gs) (gm:=gm) (gq:=gq) (gl:=gl) (gu:=gu) (gv:=gv2) (w:=w) (r:=r) (u:=u4) (lim:=lim) (s:=sAB) (l:=l4) (L:=L4) (h:=h4) (mv:= .slice none 0 0) (D:= []) (by omega) (by decide) (by decide) hO.k hO.q (fun w _=>SL.nil w 32) (fun x hx=>by cases hx) (by decide)).ent (af 16 [1,2,3,9,10,11,12,14] Z)) ?_;rintro _ _ ⟨o5,O3,l5,u5,L5,h5,rfl,p1,p2,p3,hS3,rfl⟩;have hO3:∀ x,x∈O3↔x∈l4.map Kp.id:=fun x=>by rw [p3];simp
     have hcnt:=hF3.count hO (A:=W1) (q2.nodup_iff.2 hFu.k.nd) (fun x=>by rw [q2.mem_iff,hFu.i,hF3.i]) p2 hO3;obtain ⟨hz1,hz2⟩:=hO.swp hO3 hS3;subst hz1 hz2;refine b6 (fun w H=>(H.oat (k:=0) Z).form) ?_;rintro ⟨A14,c14,rfl,_,_,_⟩;refine apo Z Z Z <| bq Z Z Z Z Z fun g35=>cg 0 Z Z Z Z <| ae Z <| aby <| apo Z Z Z <| ae Z <| ba 0 Z Z Z <| apo Z Z Z <| ay Z <| apo Z Z Z <| dR 237 Z <| ae Z <| ba 9 Z Z Z <| au Z Z Z ((Zm (gs:=gs) (gm:=gm) (w:=w) (r:=r) (u:=0) (l:=l5)).at (af 10 [2,3,4,0,1,5,6,7,8,9] Z) (af 10 [3,4,0,1,2,5,6,7,8,9] Z)) <| apo Z Z Z <| ae Z <| ba 9 Z Z Z <| am Z Z Z ((zL (gq:=gq) (gl:=gl) (gu:=gu) (gv:=gv2) (lim:=lim) (h:=h5) (s:=sAB) (L:= [])).ent (af 10 [5,6,7,8,0,1,2,3,4,9] Z)) ?_
     rintro u6 _ rfl;refine b6 (fun w H=>(H.oat (k:=0) Z).form) ?_;rintro ⟨A15,c15,rfl,_,_,_⟩
     (iterate 5 refine ae Z ?_)
     refine ba 10 Z Z Z <| au Z Z Z ((X6 (gq:=gq) (gl:=gl) (gu:=gu) (gv:=gv2) (lim:=lim) (h:=h5) (s:=sAB) (L:= []) (by decide)).at (af 11 [1,2,3,4,0,5,6,7,8,9,10] Z) (af 11 [4,0,1,2,3,5,6,7,8,9,10] Z)) <| apo Z Z Z <| ane <| aj <| bh Z Z (af 11 [] Z) ?_;exact ⟨rfl,rfl⟩
    ·refine my (7,[6]) [(13,[])] (by kernel_rfl) ⟨dZ 6 1 Z Z Z ?_,fz _ Z av ?_,trivial⟩
     ·refine fw 0 Z Z Z Z Z Z (ek hid.1) Z Z ?_;refine yr Z Z Z Z Z Z Z Z (by rw [bz,hid.1];rfl) (by decide) (af 10 [7,8] Z) fun g21=> ?_;refine ap <| ip (af 11 [8,9] Z) ?_;refine my (8,[4,5]) [(13,[])] (by kernel_rfl) ⟨i6 4 2 (L2:= []) Z Z ?_,fz _ Z av ?_,trivial⟩
      ·refine bj Z Zl <| cd 1 Z Z Z Z <| ap <| pk (af 11 [8,9] Z) <| fz _ Z av <| dh Z Z Z Z ((hMark2 _ g21).ent (af 11 [0,1,2,3,4,5,6,7,8,9,10] Z)) ?_;rintro v _ ⟨D1,d1,d2,d3,rfl⟩;refine ⟨(af 11 [8,9] Z),(ap <| ip (af 11 [8,9] Z) ?_)⟩;refine my (9,[0,1,2,3]) [(13,[])] (by kernel_rfl) ⟨i6 0 4 (L2:= []) Z Z ?_,fz _ Z av ?_,trivial⟩
       ·refine bj Z Zl <| cd 1 Z Z Z Z <| bj Z Zl <| cd 1 Z Z Z Z <| ap <| pk (af 11 [8,9] Z) <| fz _ Z av <| dh Z Z Z Z ((hSweep2 _ v D1 d1 d2 (fun w H=>(H.oat (k:=0) Z).sl)).ent (af 11 [1,2,3,4,5,6,7,0,8,9,10] Z)) ?_;rintro _ _ ⟨o3,O2,l4,u4,L4,h4,rfl,hP,rfl⟩;refine ⟨(af 12 [9,10] Z),?_⟩;refine ap (ip (af 12 [9,10] Z) (p9 13 0 (by kernel_rfl) Z ?_));refine iz Z Z Z Z Z Z (af 12 [9,10] Z) fun g30=>ap <| ip (af 13 [10,11] Z) ?_
        exact J (g30,o3,O2,l4,u4,L4,h4) _ _ _ hP (by kernel_rfl) ⟨rfl,rfl,rfl,rfl,rfl,rfl,trivial⟩ (af 13 [0,1,2,3,4,5,6,7,8,10,11,12] Z)
       ·refine iz Z Z Z Z Z Z (af 11 [8,9] Z) fun g30=> ?_;refine ap (ip (af 12 [9,10] Z) (my (9,[0,1,2,3]) [] (by kernel_rfl) ⟨i6 0 4 (L2:= []) Z Z ?_,trivial⟩));refine bj Z Zl <| cd 1 Z Z Z Z <| bj Z Zl <| cd 1 Z Z Z Z <| ap <| pk (af 12 [9,10] Z) <| fz _ Z av <| dh Z Z Z Z ((hSweep2 _ v D1 d1 d2 (fun w H=>(H.oat (k:=0) Z).sl)).ent (af 12 [2,3,4,5,6,7,8,1,0,9,10,11] Z)) ?_;rintro _ _ ⟨o3,O2,l4,u4,L4,h4,rfl,hP,rfl⟩;refine ⟨(af 13 [10,11] Z),(ap <| ip (af 13 [10,11] Z) ?_)⟩;exact J (g30,o3,O2,l4,u4,L4,h4) _ _ _ hP (by kernel_rfl) ⟨rfl,rfl,rfl,rfl,rfl,rfl,trivial⟩ (af 13 [9,0,1,2,3,4,5,6,7,10,11,12] Z)
      ·refine iz Z Z Z Z Z Z (af 11 [8,9] Z) fun g30=> ?_;refine ap (ip (af 12 [9,10] Z) (my (8,[4,5]) [] (by kernel_rfl) ⟨i6 4 2 (L2:= []) Z Z ?_,trivial⟩));refine bj Z Zl <| cd 1 Z Z Z Z <| ap <| pk (af 12 [9,10] Z) <| fz _ Z av <| dh Z Z Z Z ((hMark2 _ g21).ent (af 12 [1,2,3,4,0,5,6,7,8,9,10,11] Z)) ?_;rintro v _ ⟨D1,d1,d2,d3,rfl⟩;refine ⟨(af 12 [9,10] Z),?_⟩;refine ap (ip (af 12 [9,10] Z) (my (9,[0,1,2,3]) [] (by kernel_rfl) ⟨i6 0 4 (L2:= []) Z Z ?_,trivial⟩));refine bj Z Zl <| cd 1 Z Z Z Z <| bj Z Zl <| cd 1 Z Z Z Z <| ap <| pk (af 12 [9,10] Z) <| fz _ Z av <| dh Z Z Z Z ((hSweep2 _ v D1 d1 d2 (fun w H=>(H.oat (k:=0) Z).sl)).ent (af 12 [1,2,3,5,6,7,8,0,4,9,10,11] Z)) ?_;rintro _ _ ⟨o3,O2,l4,u4,L4,h4,rfl,hP,rfl⟩;refine ⟨(af 13 [10,11] Z),(ap <| ip (af 13 [10,11] Z) ?_)⟩;exact J (g30,o3,O2,l4,u4,L4,h4) _ _ _ hP (by kernel_rfl) ⟨rfl,rfl,rfl,rfl,rfl,rfl,trivial⟩ (af 13 [9,0,1,2,3,4,5,6,7,10,11,12] Z)
     ·refine iz Z Z Z Z Z Z (af 10 [7,8] Z) fun g30=> ?_;refine ap (ip (af 11 [8,9] Z) (p9 6 1 (by kernel_rfl) Z ?_));refine fw 0 Z Z Z Z Z Z (ek hid.1) Z Z ?_;refine yr Z Z Z Z Z Z Z Z (by rw [bz,hid.1];rfl) (by decide) (af 11 [8,9] Z) fun g21=> ?_;refine ap (ip (af 12 [9,10] Z) (my (8,[4,5]) [] (by kernel_rfl) ⟨i6 4 2 (L2:= []) Z Z ?_,trivial⟩));refine bj Z Zl <| cd 1 Z Z Z Z <| ap <| pk (af 12 [9,10] Z) <| fz _ Z av <| dh Z Z Z Z ((hMark2 _ g21).ent (af 12 [0,2,3,4,1,5,6,7,8,9,10,11] Z)) ?_;rintro v _ ⟨D1,d1,d2,d3,rfl⟩;refine ⟨(af 12 [9,10] Z),?_⟩;refine ap (ip (af 12 [9,10] Z) (my (9,[0,1,2,3]) [] (by kernel_rfl) ⟨i6 0 4 (L2:= []) Z Z ?_,trivial⟩));refine bj Z Zl <| cd 1 Z Z Z Z <| bj Z Zl <| cd 1 Z Z Z Z <| ap <| pk (af 12 [9,10] Z) <| fz _ Z av <| dh Z Z Z Z ((hSweep2 _ v D1 d1 d2 (fun w H=>(H.oat (k:=0) Z).sl)).ent (af 12 [1,2,3,5,6,7,8,0,4,9,10,11] Z)) ?_;rintro _ _ ⟨o3,O2,l4,u4,L4,h4,rfl,hP,rfl⟩;refine ⟨(af 13 [10,11] Z),(ap <| ip (af 13 [10,11] Z) ?_)⟩;exact J (g30,o3,O2,l4,u4,L4,h4) _ _ _ hP (by kernel_rfl) ⟨rfl,rfl,rfl,rfl,rfl,rfl,trivial⟩ (af 13 [9,0,1,2,3,4,5,6,7,10,11,12] Z)
   ·refine my (7,[6]) [(13,[])] (by kernel_rfl) ⟨dZ 6 1 Z Z Z ?_,fz _ Z av ?_,trivial⟩
    ·refine fw 0 Z Z Z Z Z Z (ek hjd.1) Z Z ?_;refine yr Z Z Z Z Z Z Z Z (by rw [bz,hjd.1];rfl) (by decide) (af 12 [7,8] Z) fun g20=> ?_;refine ap <| ip (af 13 [8,9] Z) ?_;refine my (8,[4,5]) [(13,[])] (by kernel_rfl) ⟨i6 4 2 (L2:= []) Z Z ?_,fz _ Z av ?_,trivial⟩
     ·refine bj Z Zl <| cd 1 Z Z Z Z <| ap <| pk (af 13 [8,9] Z) <| fz _ Z av <| dh Z Z Z Z ((hMark _ g20).ent (af 13 [0,1,2,3,4,5,6,7,8,9,10,11,12] Z)) ?_;rintro v _ ⟨D1,d1,d2,d3,rfl⟩;refine ⟨(af 13 [8,9] Z),(ap <| ip (af 13 [8,9] Z) ?_)⟩;refine my (9,[0,1,2,3]) [(13,[])] (by kernel_rfl) ⟨i6 0 4 (L2:= []) Z Z ?_,fz _ Z av ?_,trivial⟩
      ·refine bj Z Zl <| cd 1 Z Z Z Z <| bj Z Zl <| cd 1 Z Z Z Z <| ap <| pk (af 13 [8,9] Z) <| fz _ Z av <| dh Z Z Z Z ((hSweep _ v D1 d1 d2 (fun w H=>(H.oat (k:=0) Z).sl)).ent (af 13 [1,2,3,4,5,6,7,0,8,9,10,11,12] Z)) ?_;rintro _ _ ⟨o2,O1,l3,u3,L3,h3,rfl,hP,rfl⟩;refine ⟨(af 14 [9,10] Z),?_⟩;refine ap (ip (af 14 [9,10] Z) (p9 13 0 (by kernel_rfl) Z ?_));refine iz Z Z Z Z Z Z (af 14 [9,10] Z) fun g28=>ap <| ip (af 15 [10,11] Z) ?_
       exact J (g28,o2,O1,l3,u3,L3,h3) _ _ _ hP (by kernel_rfl) ⟨rfl,rfl,rfl,rfl,rfl,rfl,rfl,rfl,trivial⟩ (af 15 [0,1,2,3,4,5,6,7,8,10,11,12,13,14] Z)
      ·refine iz Z Z Z Z Z Z (af 13 [8,9] Z) fun g28=> ?_;refine ap (ip (af 14 [9,10] Z) (my (9,[0,1,2,3]) [] (by kernel_rfl) ⟨i6 0 4 (L2:= []) Z Z ?_,trivial⟩));refine bj Z Zl <| cd 1 Z Z Z Z <| bj Z Zl <| cd 1 Z Z Z Z <| ap <| pk (af 14 [9,10] Z) <| fz _ Z av <| dh Z Z Z Z ((hSweep _ v D1 d1 d2 (fun w H=>(H.oat (k:=0) Z).sl)).ent (af 14 [2,3,4,5,6,7,8,1,0,9,10,11,12,13] Z)) ?_;rintro _ _ ⟨o2,O1,l3,u3,L3,h3,rfl,hP,rfl⟩;refine ⟨(af 15 [10,11] Z),(ap <| ip (af 15 [10,11] Z) ?_)⟩;exact J (g28,o2,O1,l3,u3,L3,h3) _ _ _ hP (by kernel_rfl) ⟨rfl,rfl,rfl,rfl,rfl,rfl,rfl,rfl,trivial⟩ (af 15 [9,0,1,2,3,4,5,6,7,10,11,12,13,14] Z)
     ·refine iz Z Z Z Z Z Z (af 13 [8,9] Z) fun g28=> ?_;refine ap (ip (af 14 [9,10] Z) (my (8,[4,5]) [] (by kernel_rfl) ⟨i6 4 2 (L2:= []) Z Z ?_,trivial⟩));refine bj Z Zl <| cd 1 Z Z Z Z <| ap <| pk (af 14 [9,10] Z) <| fz _ Z av <| dh Z Z Z Z ((hMark _ g20).ent (af 14 [1,2,3,4,0,5,6,7,8,9,10,11,12,13] Z)) ?_;rintro v _ ⟨D1,d1,d2,d3,rfl⟩;refine ⟨(af 14 [9,10] Z),?_⟩;refine ap (ip (af 14 [9,10] Z) (my (9,[0,1,2,3]) [] (by kernel_rfl) ⟨i6 0 4 (L2:= []) Z Z ?_,trivial⟩));refine bj Z Zl <| cd 1 Z Z Z Z <| bj Z Zl <| cd 1 Z Z Z Z <| ap <| pk (af 14 [9,10] Z) <| fz _ Z av <| dh Z Z Z Z ((hSweep _ v D1 d1 d2 (fun w H=>(H.oat (k:=0) Z).sl)).ent (af 14 [1,2,3,5,6,7,8,0,4,9,10,11,12,13] Z)) ?_;rintro _ _ ⟨o2,O1,l3,u3,L3,h3,rfl,hP,rfl⟩;refine ⟨(af 15 [10,11] Z),(ap <| ip (af 15 [10,11] Z) ?_)⟩;exact J (g28,o2,O1,l3,u3,L3,h3) _ _ _ hP (by kernel_rfl) ⟨rfl,rfl,rfl,rfl,rfl,rfl,rfl,rfl,trivial⟩ (af 15 [9,0,1,2,3,4,5,6,7,10,11,12,13,14] Z)
    ·refine iz Z Z Z Z Z Z (af 12 [7,8] Z) fun g28=> ?_;refine ap (ip (af 13 [8,9] Z) (p9 6 1 (by kernel_rfl) Z ?_));refine fw 0 Z Z Z Z Z Z (ek hjd.1) Z Z ?_;refine yr Z Z Z Z Z Z Z Z (by rw [bz,hjd.1];rfl) (by decide) (af 13 [8,9] Z) fun g20=> ?_;refine ap (ip (af 14 [9,10] Z) (my (8,[4,5]) [] (by kernel_rfl) ⟨i6 4 2 (L2:= []) Z Z ?_,trivial⟩));refine bj Z Zl <| cd 1 Z Z Z Z <| ap <| pk (af 14 [9,10] Z) <| fz _ Z av <| dh Z Z Z Z ((hMark _ g20).ent (af 14 [0,2,3,4,1,5,6,7,8,9,10,11,12,13] Z)) ?_;rintro v _ ⟨D1,d1,d2,d3,rfl⟩;refine ⟨(af 14 [9,10] Z),?_⟩;refine ap (ip (af 14 [9,10] Z) (my (9,[0,1,2,3]) [] (by kernel_rfl) ⟨i6 0 4 (L2:= []) Z Z ?_,trivial⟩));refine bj Z Zl <| cd 1 Z Z Z Z <| bj Z Zl <| cd 1 Z Z Z Z <| ap <| pk (af 14 [9,10] Z) <| fz _ Z av <| dh Z Z Z Z ((hSweep _ v D1 d1 d2 (fun w H=>(H.oat (k:=0) Z).sl)).ent (af 14 [1,2,3,5,6,7,8,0,4,9,10,11,12,13] Z)) ?_;rintro _ _ ⟨o2,O1,l3,u3,L3,h3,rfl,hP,rfl⟩;refine ⟨(af 15 [10,11] Z),(ap <| ip (af 15 [10,11] Z) ?_)⟩;exact J (g28,o2,O1,l3,u3,L3,h3) _ _ _ hP (by kernel_rfl) ⟨rfl,rfl,rfl,rfl,rfl,rfl,rfl,rfl,trivial⟩ (af 15 [9,0,1,2,3,4,5,6,7,10,11,12,13,14] Z)
end

def cfB:List Int:= [99,111,110,102,105,103]
theorem Yc:jd cfB:=by unfold jd;decide
theorem api {b:World} {F:List SP} {gs gm:Nat} {w r u:Int} {l:List Kp} {id:List Int} (hid:idOk id) (hl:∀ e∈l,e.b.length≤4096) :
  SC Tryz.prog rk [pp gs,idV id] b (stB gs gm w r u l F) (fun v F'=>∃ v1 is B,v = .tuple ⟨[v1,.bool is]⟩∧((is=false∧eq id l=none)∨(is=true∧∃ e,eq id l=some e∧e∈l∧B=e.b))∧F'=rB v1 B::stB gs gm w r u l F):=by
 cases hf:eq id l with
 | none =>
  refine (sX hid hf).out ?_;rintro _ _ ⟨rfl,rfl⟩;exact ⟨_,de im 1 rfl,_,_,[],rfl,.inl ⟨rfl,rfl⟩,rfl⟩
 | some e =>
  have he:=(uz hf).1;refine (yd hid hf (by have:=hl e he;omega)).mono ?_;rintro _ _ ⟨v1,rfl,rfl⟩;exact ⟨_,_,_,rfl,.inr ⟨rfl,e,rfl,he,rfl⟩,rfl⟩
structure UpS where
 i:Nat
 A:Option Addr
 c:Nat
 l:List Kp
 u:Int
 L:List Ql
 gv:Nat
 h:Value
 lv:Value
def mfI (w:Int) (xss:List (List Int)) (i:Nat):Mf:=⟨3,tT,if i=xss.length+1 then dcO 1 w cfB else dcZ,(xss.take i).map (dcO 2 w),[]⟩
structure UpI (w:Int) (xss:List (List Int)) (z:UpS):Prop where
 n:z.i≤xss.length+1
 s:Shp w z.l z.u z.L
 k:z.l.length≤z.i
 c:∀ y,(∃ e∈z.l,e.b=y)↔y∈(xss ++ [cfB]).take z.i
 o:z.i=xss.length+1→∀ x∈xss,dq (dt x) w≠dq (dt cfB) w
section
variable {w:Int} {xss:List (List Int)} {z z':UpS} {i:Nat} {lv sv:Value}
theorem UpI.next (h:UpI w xss z) {T:List Int} (hT:(xss ++ [cfB])[z.i]? = some T) (e:z'.i=z.i+1) (s1:Shp w z'.l z'.u z'.L) (s2:z'.l.length≤z.l.length+1) (s3:∀ y,(∃ e∈z'.l,e.b=y)↔(∃ e∈z.l,e.b=y)∨y=T) (hno:z.i=xss.length→eq (dq (dt T) w) z.l=none):UpI w xss z':=by
 have hi:z.i<(xss ++ [cfB]).length:=(ap4.1 hT).1;have hl:(xss ++ [cfB]).length=xss.length+1:=by simp
 have hk:=h.k;refine ⟨by omega,s1,by omega,fun y=> ?_,fun q x hx hq=> ?_⟩
 ·rw [s3,h.c,e,List.take_add_one,ap6,hT];simp
 ·have hin:z.i=xss.length:=by omega
  have hn:=hno hin;have hTc:T=cfB:=by
   rw [hin] at hT;simp at hT;exact hT.symm
  obtain ⟨e,he,rfl⟩:=(h.c x).2 (by rw [hin,arl rfl];exact hx);rw [hTc] at hn;exact jU hn e he ((h.s.d e he).trans hq)
theorem UpI.img (hw:1≤w∧w≤32) (h:UpI w xss z) (he:z.i=xss.length+1) (h8:xss.length≤8) (hb:∀ x∈xss,x.length≤60∧jd x):nU w xss cfB where
 wd:=hw
 n:=h8
 b:=hb
 c:=⟨by decide,Yc⟩
 out:=h.o he
 one:=fun x hx y hy q=>by
  have ha:(xss ++ [cfB]).take z.i=xss ++ [cfB]:=aqh (by rw [he];simp);obtain ⟨e,he,rfl⟩:=(h.c x).2 (by rw [ha];exact aqu _ hx);obtain ⟨f,hf,rfl⟩:=(h.c y).2 (by rw [ha];exact aqu _ hy);have h1:=lI h.s.k.nd he;have h2:=lI h.s.k.nd hf;rw [h.s.d e he,q,← h.s.d f hf,h2] at h1;rw [arw h1]
theorem UpI.all (h:UpI w xss z) (he:z.i=xss.length+1) (y:List Int):(∃ e∈z.l,e.b=y)↔y∈xss∨y=cfB:=by
 rw [h.c,aqh (by rw [he];simp),ap6,apy]
theorem Vz:mfI w xss (xss.length+1)=tp w xss cfB:=by
 unfold mfI tp nN;rw [if_pos rfl,aqh (by omega)]
theorem amy (h:i<xss.length):mfC (mfI w xss (i+1)) lv sv=mfC (mfI w xss i) lv sv:=by
 unfold mfC mfI;rw [if_neg (by omega),if_neg (by omega)]
theorem amz (h:i=xss.length):mfC ⟨(mfI w xss i).kind,(mfI w xss i).title,dcO 1 w cfB,(mfI w xss i).layers,(mfI w xss i).subs⟩ lv sv=mfC (mfI w xss (i+1)) lv sv:=by
 subst h;unfold mfC mfI;rw [if_pos rfl]
theorem Rg {v:Value} {l:List Dc} {d:Dc}:rDs v (l ++ [d])=row t_api_Desc 35 v (l.length+1) (flC dcC l++dcC d):=by
 show row _ _ _ (l ++ [d]).length (flC dcC (l ++ [d]))=_;rw [aps,ic];simp [flC]
theorem G1:(mfI w xss i).cfg0.id.length=32:=by
 unfold mfI;dsimp only
 split
 ·exact (jv _ _).1
 ·rfl
theorem V0 {T:List Int} (hT:(xss ++ [cfB])[i]? = some T) (h:i<xss.length):xss.take (i+1)=xss.take i ++ [T]:=by
 rw [aq6 h] at hT;rw [List.take_add_one,hT]
 rfl
theorem Rh (h:i=xss.length):xss.take (i+1)=xss.take i:=by
 subst h;rw [aqh (by omega),aqh (by omega)]
theorem abr {T:List Int} (h:i=xss.length) (hT:(xss ++ [cfB])[i]? = some T):T=cfB:=by
 subst h;simp at hT;exact hT.symm
end

abbrev uT (nm tn:ByteArray) (hT hM:Hd) (tv hv mv:Value):Rp:=⟨nm,tv,[⟨tn,hv,[hT]⟩],mv,[hM]⟩
abbrev bI (nm tn:ByteArray) (hT hM:Hd) (V:List Int) (vv rv tv hv mv:Value):Tb:=⟨vv,V,rv,[uT nm tn hT hM tv hv mv]⟩
section
variable {b:World} {F:List SP} {B:List Int}
theorem Ri {vb:Value} {V:List Int} {j i1 i2 i3:Nat} {hT hM:Hd} {nm tn:ByteArray} (hv:∀ w,Sat b F w→VL (Value.int .u8) w vb B) (hB:B.length≤1000000) (hb:fq B) (h0:1≤B.length) (hV:F6 B 16 r0=(V,⟨j,0,0⟩)) (hj:ia B ⟨j,0,0⟩=(1,⟨j+1,0,0⟩)) (hj2:j+1≤B.length)
  (hx:ng B 128 ⟨j+1,0,0⟩=(dz nm,⟨i1,0,0⟩)) (hm:ia B ⟨i1,0,0⟩=(1,⟨i1+1,0,0⟩)) (hm2:i1+1≤B.length) (hx2:ng B 64 ⟨i1+1,0,0⟩=(dz tn,⟨i2,0,0⟩)) (h1:HAt B i2 i3 hT) (h2:HAt B i3 B.length hM)
  (hk:∀ vv rv tv hv mv,TK (bI nm tn hT hM V vv rv tv hv mv)) :
  SC Tryz.prog rU [vb] b F (fun u F'=>∃ vv rv tv hv mv,u = .tuple ⟨[tbV (bI nm tn hT hM V vv rv tv hv mv),.agg ⟨[ii 0,ii 0]⟩]⟩∧F'=tbP (bI nm tn hT hM V vv rv tv hv mv)++F):=by
 refine ao Tryz.func23 Z Z Z <| bu (fun w H=>(hv w H).form) ?_;rintro ⟨A,c,rfl,_,_,_,_⟩;refine anf <| bq Z Z Z Z Z fun g2=>bq Z Z Z Z Z fun g3=>aby <| ae Z <| am Z Z Z (oO (B:=B) (up hv (af 2 [] Z)) hB) ?_
 rintro _ _ ⟨g,gw,v,rfl,rfl⟩
 skip
 refine bq Z Z Z Z Z fun g4=>cg 0 Z Z Z Z <| aby <| ba 0 Z Z Z <| apo Z Z Z <| br Z Z Z Z Z fun gR=>bq Z Z Z Z Z fun g5=>cg 0 Z Z Z Z <| aby <| ba 2 Z Z Z <| am Z Z Z ((Tz (most:=16) (s:=r0) (F:=pt g5 iv [pp gR]::rdg gR g (B.length:Int)::pt g4 q9 [pp g]::pt g3 t_api_Fault [ii 0,ii 0]::pt g2 bt [.slice none 0 0,.slice none 0 0]::F) (by decide) hB hb).ent (af 8 [3,4,5,0,1,2,6,7] Z)) ?_
 rintro vv _ rfl;rw [hV];dsimp only;refine b6 (fun w H=>(H.oat (k:=0) Z).form) ?_;rintro ⟨Av,cv,rfl,_,_,_⟩;refine ae Z <| bq Z Z Z Z Z fun g6=>cg 0 Z Z Z Z <| aby <| ba 5 Z Z Z <| ae Z <| am Z Z Z ((zF (fn:=aG) (caps:= [pp g4,pp g5,pp g6]) (F:=dcF g4 g5 g gR (pt g6 bt [.slice Av V.length cv,.slice none 0 0]::rZ (.slice Av V.length cv) V::pt g3 t_api_Fault [ii 0,ii 0]::pt g2 bt [.slice none 0 0,.slice none 0 0]::F)) hB hb hj (by omega) (by omega) hj2 (Uw (gt:=g6) hB hb (by omega) (by omega) hj2 hx hm hm2 hx2 h1 h2)).ent (af 10 [6,2,3,4,7,5,0,1,8,9] Z)) ?_
 rintro _ _ ⟨_,rv,tv,hv',mv,rfl⟩;refine eg (af 14 [9,8,4,5,6,7,10,12,13,0,1,2,3,11] Z) ?_;have hT2:∀ {a1 a2 a3 a4 a5 a6 a7 a8 a9:SP},∀ w,Sat b (a1::a2::a3::a4::a5::a6::a7::a8::a9::rRs rv [uT nm tn hT hM tv hv' mv]::rHs hv' [hT]::rTs tv [⟨tn,hv',[hT]⟩]::rHs mv [hM]::rZ (.slice Av V.length cv) V::F) w→TR w (bI nm tn hT hM V (.slice Av V.length cv) rv tv hv' mv):=fun w H=>by
  refine ⟨vlZ (k:=13) Z w H,(H.oat (k:=9) Z).sl,fun r hr=> ?_⟩;rw [apy.1 hr];refine ⟨(H.oat (k:=11) Z).sl,(H.oat (k:=12) Z).sl,fun g hg=> ?_⟩;rw [apy.1 hg];exact (H.oat (k:=10) Z).sl
 refine b6 (fun w H=>(H.oat (k:=9) Z).form) ?_;rintro ⟨Ar,cr,rfl,_,_,_⟩;refine ane <| ac <| anf <| ba 0 Z Z Z <| apn Z Z <| ba 2 Z Z Z <| ae Z <| j6 Z (y8 Z Z (n8 0 0 0 0)) Z ?_;refine bn 25 (.bool true) Z (by rw [ap5 ⟨rfl,rfl⟩]) ?_;refine ane <| ar Z <| cq flo _ (by decide +kernel) av <| cd 0 Z Z Z Z <| cd 1 Z Z Z Z ?_;have hE:tG B ⟨B.length,0,0⟩=(0,0):=by unfold tG;rw [if_neg (by simp)]
 refine fe (v:= .agg ⟨[ii 0,ii 0]⟩) Z Z Z Z (by
  have:=(yV (b:=b) (g:=g) (gw:=gw) (v:=v) (B:=B) (s:=⟨B.length,0,0⟩) (F:=pt g5 iv [pp gR]::pt g4 q9 [pp g]::rdg gR g (B.length:Int)::pt g6 bt [.slice Av V.length cv,.slice Ar 1 cr]::pt g3 t_api_Fault [ii 0,ii 0]::pt g2 bt [.slice none 0 0,.slice none 0 0]::rRs (.slice Ar 1 cr) [uT nm tn hT hM tv hv' mv]::rHs hv' [hT]::rTs tv [⟨tn,hv',[hT]⟩]::rHs mv [hM]::rZ (.slice Av V.length cv) V::F) hB);rw [hE] at this;exact this.at (af 14 [3,4,5,0,1,2,6,7,8,9,10,11,12,13] Z) (af 14 [3,4,5,0,1,2,6,7,8,9,10,11,12,13] Z)) av ?_
 refine bj Z Zl <| bj Z Zl <| qc 2 Z Z Z Z Z Z Z Z Z Z Z Z av <| ap <| ab <| ac <| anf <| ba 0 Z Z Z <| apn Z Z <| ba 2 Z Z Z <| ae Z <| j6 Z (y8 Z Z (n8 0 0 0 0)) Z ?_;refine bn 36 (.bool true) Z (by rw [ap5 ⟨rfl,rfl⟩]) ?_;refine ane <| ar Z <| cq flo _ (by decide +kernel) av <| cd 0 Z Z Z Z <| cd 6 Z Z Z Z <| fe (v:=ii 0) Z Z Z Z (uE (t:=bI nm tn hT hM V (.slice Av V.length cv) (.slice Ar 1 cr) tv hv' mv) (hk _ _ _ _ _) hT2) av <| bj Z Zl <| bj Z Zl <| bj Z Zl <| qc 2 Z Z Z Z Z Z Z Z Z Z Z Z av <| ap <| ab <| ac <| anf <| ba 0 Z Z Z <| apn Z Z <| ba 2 Z Z Z <| ae Z <| j6 Z (wk Z Z (n8 0 0 0 0)) Z ?_;refine bn 48 (.bool false) Z (by rw [ap5 ⟨rfl,rfl⟩];rfl) ?_;refine ane <| ai Z <| ah <| ab <| ac <| cq flo (pt g5 iv [pp gR]::pt g4 q9 [pp g]::rdg gR g (B.length:Int)::pt g6 bt [.slice Av V.length cv,.slice Ar 1 cr]::F) (by decide +kernel) (af 14 [0,1,2,6] Z) <| cd 3 Z Z Z Z <| cd 0 Z Z Z Z <| bj Z Zl <| bj Z Zl <| cd 2 Z Z Z Z <| qc 8 Z Z Z Z Z Z Z Z Z Z Z Z (af 14 [0,1,2,6] Z) <| qc 7 Z Z Z Z Z Z Z Z Z Z Z Z (af 14 [0,1,2,6] Z) <| ap <| ab <| aj ?_;refine ez Z (.agg 8 Z Z Z Z Z (.agg 7 Z Z Z Z Z .nil)) (G:=tbP (bI nm tn hT hM V (.slice Av V.length cv) (.slice Ar 1 cr) tv hv' mv)++F) ?_ ?_
 ·refine (af 14 [10,11,12,13,9] Z).trans ((ee (G:= [rHs hv' [hT]])).trans ((af 5 [1,2,0,3,4] Z).trans ((ee (G:=rpP (uT nm tn hT hM tv hv' mv))).trans ((ee (G:= [all (rpP (uT nm tn hT hM tv hv' mv))])).trans ?_))));exact af 3 [1,2,0] Z
 ·exact ⟨_,_,_,_,_,rfl,rfl⟩
end

def nmA:ByteArray:=⟨#[97]⟩
def tnV:ByteArray:=⟨#[118]⟩
def e1X (id:List Int):Ev:=⟨1,1,nS,[0],1,nmA,⟨#[]⟩,id,nS,[id]⟩
def e2X (id:List Int):Ev:=⟨1,2,nS,[1],3,nmA,tnV,id,nS,[id]⟩
abbrev hTX (id:List Int):Hd:=⟨(1,2),id⟩
abbrev hMX (id:List Int):Hd:=⟨(1,1),id⟩
def uX (id:List Int):TB:=⟨[1],[⟨nmA,[],[hMX id]⟩]⟩
def tX (id:List Int):TB:=⟨[2],[⟨nmA,[⟨tnV,[hTX id]⟩],[hMX id]⟩]⟩
deriving instance DecidableEq for RS
deriving instance DecidableEq for WS
structure WX (id B:List Int):Prop where
 ok:idOk id
 nz:id≠List.replicate 32 0
 enc:enS (tbQ (tX id))=⟨B,0⟩
 bo:fq B
 ln:B.length=78
 rV:F6 B 16 r0=([2],⟨2,0,0⟩)
 rj:ia B ⟨2,0,0⟩=(1,⟨3,0,0⟩)
 rx:ng B 128 ⟨3,0,0⟩=(dz nmA,⟨5,0,0⟩)
 rm:ia B ⟨5,0,0⟩=(1,⟨6,0,0⟩)
 rt:ng B 64 ⟨6,0,0⟩=(dz tnV,⟨8,0,0⟩)
 hT:HAt B 8 43 (hTX id)
 hM:HAt B 43 B.length (hMX id)
def idL:List Int:= [45,113,22,66,183,38,176,68,1,98,124,169,251,172,50,245,200,83,15,177,144,60,196,219,2,37,135,23,146,26,72,129]
def bL:List Int:= [1,2,1,1,97,1,1,118,1,1,2]++idL ++ [1,1,1]++idL
theorem am0:dt [120]=idL:=by decide +kernel
theorem am1:WX idL bL:=by
 have h0:idL.length=32∧idL.all (fun x=>(Lit.int .u8 x).wf)=true∧idL≠List.replicate 32 0∧(∀ x∈bL,0≤x∧x<256)∧bL.length=78:=by decide +kernel
 have h1:enS (tbQ (tX idL))=⟨bL,0⟩:=by decide +kernel
 have h2:F6 bL 16 r0=([2],⟨2,0,0⟩)∧ia bL ⟨2,0,0⟩=(1,⟨3,0,0⟩)∧ng bL 128 ⟨3,0,0⟩=(dz nmA,⟨5,0,0⟩)∧ia bL ⟨5,0,0⟩=(1,⟨6,0,0⟩)∧ng bL 64 ⟨6,0,0⟩=(dz tnV,⟨8,0,0⟩):=by decide +kernel
 have h3:ia bL ⟨8,0,0⟩=(1,⟨9,0,0⟩)∧yT bL ⟨9,0,0⟩=((1,2),⟨11,0,0⟩)∧rID bL ⟨11,0,0⟩=(idL,⟨43,0,0⟩):=by decide +kernel
 have h4:ia bL ⟨43,0,0⟩=(1,⟨44,0,0⟩)∧yT bL ⟨44,0,0⟩=((1,1),⟨46,0,0⟩)∧rID bL ⟨46,0,0⟩=(idL,⟨78,0,0⟩):=by decide +kernel
 obtain ⟨a1,a2,a3,a4,a5⟩:=h0;obtain ⟨c1,c2,c3,c4,c5⟩:=h2;exact ⟨⟨a1,fun x hx=>aqm.1 a2 x hx⟩,a3,h1,a4,a5,c1,c2,c3,c4,c5,⟨h3.1,by omega,⟨11,h3.2.1,h3.2.2,by omega⟩,a1⟩,by rw [a5];exact ⟨h4.1,by omega,⟨46,h4.2.1,h4.2.2,by omega⟩,a1⟩⟩
section
variable {id:List Int}
theorem am2:TI 1 [] (⟨[0],[]⟩:TB) :=
 ⟨⟨List.Pairwise.nil,fun r hr=>(by cases hr)⟩,rfl,fun x hx=>(by rw [apy.1 hx];decide),fun p x=>⟨fun h=>(by cases h),fun ⟨y,hy,_⟩=>(by cases hy)⟩,fun e he=>(by cases he),List.nodup_nil⟩
theorem Jm:jk (dz nmA)=(0,0)∧cB (dz tnV)=(0,0):=by decide +kernel
theorem apj:Nxt [0] (e1X id):=⟨(by decide:(1:Int)≤1),(by decide:(1:Int)≤1),(by decide:(1:Int)≤1),(by decide:(1:Int)≤1048576),(by decide:lj [0] 1 1=false),rfl,fun x hx=>by rw [apy.1 (show x∈ [0] from hx)];decide,(by decide:atL [0] 1=1 - 1),(by decide:jP [0] [0]=true),rfl,⟨(by decide:(1:Int)≤1),(by decide:(1:Int)≤4)⟩,Jm.1,fun h=>absurd h (by decide:¬ ((1:Int)=3∨(1:Int)=4))⟩
theorem apk:Nxt [1] (e2X id):=⟨(by decide:(1:Int)≤1),(by decide:(1:Int)≤1),(by decide:(1:Int)≤2),(by decide:(2:Int)≤1048576),(by decide:lj [1] 1 2=false),rfl,fun x hx=>by rw [apy.1 (show x∈ [1] from hx)];decide,(by decide:atL [1] 1=2 - 1),(by decide:jP [1] [1]=true),rfl,⟨(by decide:(1:Int)≤3),(by decide:(3:Int)≤4)⟩,Jm.1,fun _=>Jm.2⟩
theorem abt {t:TB} (hr:zk t.rs) (hv:t.V = [1]) (ha:∀ p,atP p t.rs=wj (e1X id) p []):TI 1 [e1X id] t :=
 TI.step (e:=e1X id) am2 (by decide:lj [0] 1 1=false) (by decide:jP [0] [0]=true) (by decide:lj [0] 1 1=false) (fun y hy=>by cases hy) (by decide:(1:Int)≤1) (by decide:(1:Int)≤1) (by decide:atL [0] 1=1 - 1) (by decide:(1:Int)≤1) (by decide:(1:Int)≤1048576) hr (hv.trans (by decide : [1]=tC [0] 1 1)) ha
theorem apm {t t':TB} (h:TI 1 [e1X id] t) (hV:t.V = [1]) (hr:zk t'.rs) (hv:t'.V = [2]) (ha:∀ p,atP p t'.rs=wj (e2X id) p (atP p t.rs)):TI 1 ([e1X id] ++ [e2X id]) t' :=
 TI.step (e:=e2X id) h (by rw [hV];exact (by decide:lj [1] 1 2=false)) (by rw [hV];exact (by decide:jP [1] [1]=true)) (by decide:lj [1] 1 2=false) (fun y hy=>by rw [hV,apy.1 hy];exact (by decide:jP [0] [1]=true)) (by decide:(1:Int)≤1) (by decide:(1:Int)≤1) (by rw [hV];exact (by decide:atL [1] 1=2 - 1)) (by decide:(1:Int)≤2) (by decide:(2:Int)≤1048576) hr (by rw [hv,hV];exact (by decide : [2]=tC [1] 1 2)) ha
theorem am3:zk (uX id).rs:=by
 refine ⟨ar8 _ _,fun r hr=> ?_⟩;rw [apy.1 hr];exact ⟨List.Pairwise.nil,fun g hg=>(by cases hg),ar8 _ _,.inr (by simp)⟩
theorem am4:zk (tX id).rs:=by
 refine ⟨ar8 _ _,fun r hr=> ?_⟩;rw [apy.1 hr];refine ⟨ar8 _ _,fun g hg=> ?_,ar8 _ _,.inl (by simp)⟩;rw [apy.1 hg];exact ⟨by simp,ar8 _ _⟩
theorem am5 (p:Pl):wj (e1X id) p []=atP p (uX id).rs:=by
 obtain ⟨r,g⟩:=p;by_cases hr:r=nmA
 ·subst hr;cases g with
  | none => rfl
  | some s => simp [wj, atP, zj, nk, e1X, uX]
 ·have hr':¬ nmA=r:=fun h=>hr h.symm
  simp [wj,atP,e1X,uX,hr,hr']
theorem am6 (p:Pl):wj (e2X id) p (atP p (uX id).rs)=atP p (tX id).rs:=by
 obtain ⟨r,g⟩:=p;by_cases hr:r=nmA
 ·subst hr;cases g with
  | none => rfl
  | some s =>
   by_cases hs:s=tnV
   ·subst hs;rfl
   ·have hs':¬ tnV=s:=fun h=>hs h.symm
    simp [wj,atP,zj,nk,e2X,tX,uX,hs,hs']
 ·have hr':¬ nmA=r:=fun h=>hr h.symm
  simp [wj,atP,e2X,tX,uX,hr,hr']
theorem nms:∀ e∈ [e1X id] ++ [e2X id],jk (dz e.repo)=(0,0)∧(e.kind=3→cB (dz e.tag)=(0,0)):=by
 have h:=Jm;intro e he;rcases ap1.1 he with rfl | he
 ·exact ⟨h.1,fun h=>by cases h⟩
 ·rw [apy.1 he];exact ⟨h.1,fun _=>h.2⟩
theorem am7 {t:Tb} (hr:zk (t.rs.map Rp.pl)) (hv:t.V = [1]) (ha:∀ p,atP p (t.rs.map Rp.pl)=wj (e1X id) p []) (hw:∀ r∈t.rs,RW r):t.pl=uX id∧TK t∧DK 1 t.rs:=by
 have hrs:t.rs.map Rp.pl=(uX id).rs:=tN hr am3 fun p=>(ha p).trans (am5 p)
 have hp:t.pl=uX id:=by
  obtain ⟨vv,V,rv,rs⟩:=t;cases hv;exact ap2 (TB.mk [1]) hrs
 have hl:t.rs.length=1:=by have:=ap2 List.length hrs;rwa [ap9] at this
 refine ⟨hp,⟨⟨by rw [hv];decide,by omega,hw⟩,(abt (t:=t.pl) hr hv ha).tok (by decide) (by decide) fun e he=>nms e (aqu _ he)⟩,⟨hr.w,hw,by omega,fun r hr'=> ?_⟩⟩;have h1:r.pl∈(uX id).rs:=by rw [← hrs];exact asz hr'
 have h2:r.pl=⟨nmA,[],[hMX id]⟩:=apy.1 h1;have h3:r.ts = []:=by have:=ap2 RP.ts h2;simpa [Rp.pl] using this
 have h4:r.ms = [hMX id]:=ap2 RP.ms h2;rw [h3,h4];exact ⟨by decide,aqp _,fun g hg=>(by cases hg)⟩
theorem am8 {t u:Tb} (hu:u.pl=uX id) (hr:zk (t.rs.map Rp.pl)) (hv:t.V = [2]) (ha:∀ p,atP p (t.rs.map Rp.pl)=wj (e2X id) p (atP p (u.rs.map Rp.pl))) (hw:∀ r∈t.rs,RW r) :
  (∃ vv rv tv hv mv,t=bI nmA tnV (hTX id) (hMX id) [2] vv rv tv hv mv)∧Tok (tX id):=by
 have hur:u.rs.map Rp.pl=(uX id).rs:=ap2 TB.rs hu;rw [hur] at ha;have hrs:t.rs.map Rp.pl=(tX id).rs:=tN hr am4 fun p=>(ha p).trans (am6 p)
 refine ⟨?_,?_⟩
 ·obtain ⟨vv,V,rv,rs⟩:=t;cases hv
  match rs,hrs with
  | [], h => cases h
  | _ :: _ :: _, h => exact absurd (ap2 List.length h) (by simp [tX])
  | [⟨nm, tv, ts, mv, ms⟩], h =>
   have h2:(⟨nm,ts.map Tg.pl,ms⟩:RP)=⟨nmA,[⟨tnV,[hTX id]⟩],[hMX id]⟩:=(List.cons.inj h).1;have h3:nm=nmA:=ap2 RP.nm h2;have h4:ms = [hMX id]:=ap2 RP.ms h2;have h5:ts.map Tg.pl = [⟨tnV,[hTX id]⟩]:=ap2 RP.ts h2;subst h3;subst h4
   match ts,h5 with
   | [], h => cases h
   | _ :: _ :: _, h => exact absurd (ap2 List.length h) (by simp)
   | [⟨tn, hv, hs⟩], h =>
    have h6:(⟨tn,hs⟩:TG)=⟨tnV,[hTX id]⟩:=(List.cons.inj h).1;have h7:tn=tnV:=ap2 TG.nm h6;have h8:hs = [hTX id]:=ap2 TG.hs h6;subst h7;subst h8;exact ⟨vv,rv,tv,hv,mv,rfl⟩
 ·have h1:=apm (t:=uX id) (t':=tX id) (abt (t:=uX id) am3 Z fun p=>(am5 p).symm) Z am4 Z fun p=>(am6 p).symm
  exact h1.tok (by decide) (by decide) nms
theorem am9 (hid:idOk id) {vv rv tv hv mv:Value}:TW (bI nmA tnV (hTX id) (hMX id) [2] vv rv tv hv mv):=by
 have n1:(1:Nat)≤1000:=by decide
 refine ⟨(by decide:1≤16),n1,fun r hr=> ?_⟩;rw [apy.1 hr];have hT:dJ (hTX id):=⟨(show lG (1,2) by decide),hid⟩;have hM:dJ (hMX id):=⟨(show lG (1,1) by decide),hid⟩;refine ⟨n1,n1,fun g hg=> ?_,fun x hx=> ?_,fun g hg x hx=> ?_,n1,fun g hg=> ?_⟩
 ·rw [apy.1 hg];exact n1
 ·rw [apy.1 hx];exact hM
 ·rw [apy.1 hg] at hx;rw [apy.1 (show x∈ [hTX id] from hx)];exact hT
 ·rw [apy.1 hg];exact n1
theorem ana (hid:idOk id) (hk:Tok (tX id)) {vv rv tv hv mv:Value}:TK (bI nmA tnV (hTX id) (hMX id) [2] vv rv tv hv mv):=⟨am9 hid,hk⟩
theorem ew1 (hid:idOk id) (dv rv:Value):EW ((e1X id).own dv rv) :=
 ⟨hid,(show lG (1,1) by decide),fun x hx=>by cases apy.1 hx;exact hid,(by show I64 1;unfold I64;omega),fun x hx=>by
  rw [apy.1 (show x∈ [0] from hx)];unfold I64;omega,(by show (1:Nat)≤maxLen;decide),(by show (0:Nat)≤maxLen;decide)⟩
theorem ew2 (hid:idOk id) (dv rv:Value):EW ((e2X id).own dv rv) :=
 ⟨hid,(show lG (1,2) by decide),fun x hx=>by cases apy.1 hx;exact hid,(by show I64 3;unfold I64;omega),fun x hx=>by
  rw [apy.1 (show x∈ [1] from hx)];unfold I64;omega,(by show (1:Nat)≤maxLen;decide),(by show (1:Nat)≤maxLen;decide)⟩
theorem tk0 {vv rv:Value}:TK (⟨vv,[0],rv,[]⟩:Tb):=⟨⟨by show (1:Nat)≤16;decide,aqc _,fun r hr=>(by cases hr)⟩,am2.tok (by decide) (by decide) fun e he=>(by cases he)⟩
theorem dk0:DK 1 ([]:List Rp):=⟨⟨List.Pairwise.nil,fun r hr=>(by cases hr)⟩,fun r hr=>(by cases hr),aqc _,fun r hr=>(by cases hr)⟩
end

section
variable {b:World} {F:List SP}
theorem anb {A:Option Addr} {c:Nat} {f:Value}:SC Tryz.prog lf [.slice A 1 c,f] b F (fun _ F'=>F'=F):=by
 have hpd:∀ {u:Value},SC Tryz.prog m8 [.slice A 1 c,ii 0,ii 1,u,f] b F (fun _ F'=>F'=F):=by
  intro u;refine ao Tryz.func245 Z Z Z <| anf <| ae Z <| aby <| ae Z <| ane <| ak <| d6 (S:=Unit) (fun _=> [(0,.slice A 1 c),(1,ii 0),(2,ii 1),(4,f)]) (fun _=>F) (fun _=>True) (fun _=>0) () av trivial ?_;intro _ _;refine ak <| anf <| apn Z Z <| ay Z <| ae Z <| ane <| ac <| anf <| apn Z Z <| ane <| ar Z <| anf <| apo Z Z Z <| ae Z ?_;have his:SC Tryz.prog km [.slice A 1 c,ii 0,ii 1,f] b F (fun _ F'=>F'=F):=by
   refine ao Tryz.func281 Z Z Z <| anf <| ae Z <| ay Z <| ae Z <| ane <| ak <| d6 (S:=Unit) (fun _=> [(0,.slice A 1 c),(1,ii 0),(2,ii 1),(3,f),(8,ii 1)]) (fun _=>F) (fun _=>True) (fun _=>0) () av trivial ?_;intro _ _;refine ac <| anf <| apo Z Z Z <| ane <| ai Z <| b8 <| aw <| ax <| aq <| io Z .nil av ?_
   rfl
  refine am Z Z Z (his) ?_;rintro _ _ rfl;refine ane <| aj <| al <| az <| du <| az <| ez Z .nil av ?_
  rfl
 refine ao Tryz.func176 Z Z Z <| anf <| apo Z Z Z <| ane <| aa <| apo Z Z Z <| ae Z <| bn 10 (.int .u64 ((1:Nat):Int)) Z (ap2 (Value.int .u64) (O7 (n:=1) (by omega))) <| am Z Z Z (Gj (n:=1) (by omega)) ?_;rintro u _ ⟨rfl⟩;refine ae Z <| am Z Z Z (hpd) ?_;rintro _ _ rfl;refine ad <| io Z .nil av ?_
 rfl
variable {h:Hd}
theorem Me {v:Value} (hk:dJ h) (hv:∀ w,Sat b F w→SL w 34 v 1 (zm [h])):SC Tryz.prog pB [v] b F (fun u F'=>F'=rD u [h.id]::F):=by
 have hi:idOk h.id:=hk.id;have xl:(hdC h).length=34:=mq hi.1;refine ao Tryz.func88 Z Z Z <| bu (fun w H=>ci (hv w H)) ?_;rintro ⟨A,c,rfl,_,_,_,h4,_⟩;obtain ⟨gg,oo,rfl⟩:=h4 (by omega);have hcr:∀ w,Sat b F w→∀ j,j<34→w.cell? ⟨gg,oo+0*34+j,none⟩=(hdC h)[j]?:=fun w H j hj=>ej (l:= [h]) (hv w H) (fun x hx=>by rw [apy.1 hx];exact xl) (ats 0) hj
 refine anf <| ae Z <| aby <| qq (fun a:List Int=> .agg ⟨a.map (Value.int .u8)⟩) idOk Z Z Z fun gm=>ae Z <| aby <| ae Z <| ane <| ac <| anf <| apo Z Z Z <| ane <| ak <| d6 (S:=Option Value) (fun q=> [(0,.slice (some ⟨gg,oo,none⟩) 1 c),(3,.map (some gm)),(4,match q with | none=> .slice none 0 0 | some u=>u),(10,.slice (some ⟨gg,oo,none⟩) 1 c),(11,ii 1),(12,ii (match q with | none=>0 | some _=>1))]) (fun q=>match q with | none=>mp gm (fun a:List Int=> .agg ⟨a.map (Value.int .u8)⟩) idOk []::F | some u=>rD u [h.id]::F) (fun _=>True) (fun q=>match q with | none=>1 | some _=>0) none av trivial ?_
 rintro (_ | u) _
 ·dsimp only;refine anf <| ae Z <| ane <| ac <| ar Z <| ah <| ab <| ac <| ak <| anf <| ay Z ?_;refine fc Z (fun w H=>di (cs:=hdC h) Z Z Z xl (fun j hj=>by rw [xl] at hj;exact hcr w (H.ent (af 1 [] Z)) j hj)) Z ?_;refine bq Z Z Z Z Z fun g6=> ?_;refine eh 0 Z Z Z Z Z Z Z xl (tm h) (by rw [xl];rfl) ?_;refine aby <| apn Z Z <| b7 0 Z Z Z Z Z Z (uD hi.1) Z ?_
  skip
  refine vm 1 aV hi Z Z Z Z Z Z Z Z Z <| apo Z Z Z <| bq Z Z Z Z Z fun g7=> ?_;refine eh 0 Z Z Z Z Z Z Z Z (fun u hu=>by cases hu) Z ?_;refine ae Z <| aby <| apn Z Z <| ane <| ar Z <| anf <| apn Z Z <| b7 1 Z Z Z Z Z Z (uD hi.1) Z <| ae Z <| mI 2 aV hi Z Z Z Z Z Z Z Z <| ane <| aa <| apn Z Z <| b7 1 Z Z Z Z Z Z (uD hi.1) Z ?_;have ul:(u8s h.id).length=32:=by rw [bz,hi.1]
  refine li Z Z Z Z Z Z Z ul (by decide) fun gl=>eg (de t_api_ID 32 Z) <| ef 0 Z Z Z Z Z Z Z Z Z (m:=1) (news:=u8s h.id) (fun w' H=>(H.blk (k:=1) Z).sl ul (by decide)) (ec _) (by omega) (fun _=>rfl) fun v8=>ae Z <| ad <| bg <| ab <| aa <| ay Z <| ae Z <| ad ?_
  have ei:q6 [h.id]=u8s h.id:=by simp [q6]
  refine dj (some v8) (by show Ent _ (rD v8 [h.id]::F);rw [rD,ei];exact af 5 [0] Z) trivial
 ·dsimp only;refine bu (fun w H=>(H.oat (k:=0) Z).form) ?_;rintro ⟨A9,c9,rfl,_,_,_⟩;refine anf <| ae Z <| ane <| ac <| ai Z <| b8 <| aw <| ax <| aq <| ab <| anf <| ae Z <| am Z Z Z (anb (A:=A9) (c:=c9)) ?_;rintro _ _ rfl;refine aby <| apn Z Z <| ane <| aj <| bh Z Z av ?_
  rfl
end
section
variable {b:World} {F:List SP} {nm tn:ByteArray} {hT hM:Hd} {V:List Int} {vv rv tv hv mv:Value}
theorem V1 {r:Rp} {g:Nat}:SC Tryz.prog sG [.agg ⟨rpC r⟩,pp g] b (pt g ko [.string r.nm]::F) (fun u F'=>u = .bool true∧F'=pt g ko [.string r.nm]::F):=by
 refine ao Tryz.func248 Z Z Z <| anf <| br Z Z Z Z Z fun g2=>ae Z <| aby <| ae Z <| ba 0 Z Z Z <| ba 1 Z Z Z <| apn Z Z <| ane <| aj <| bh Z Z (af 1 [] Z) ?_
 exact ⟨ap2 Value.bool (ap5 Z),rfl⟩
theorem abu {f:Nat} [Bodied Tryz.prog f] {r:Rp} {va:Value} {post:List Value} (ha:∀ w,Sat b F w→SL w 3 va 1 (q8 [r])) (hc:SC Tryz.prog f ([.agg ⟨rpC r⟩]++post) b F (fun u F'=>u = .bool true∧F'=F)):SC Tryz.prog iy [va,.func (.func f) ⟨[]⟩ ⟨post⟩] b F (fun u F'=>u=ii 0∧F'=F):=by
 refine ao Tryz.func239 Z Z Z <| bu (fun w H=>ci (ha w H)) ?_;rintro ⟨A,c,rfl,_,_,_,h4,_⟩;obtain ⟨gg,oo,rfl⟩:=h4 (by omega);have hcr:∀ w,Sat b F w→∀ j,j<3→w.cell? ⟨gg,oo+0*3+j,none⟩=(rpC r)[j]?:=fun w H j hj=>ej (l:= [r]) (f:=rpC) (ha w H) (fun x hx=>by rw [apy.1 hx];rfl) (ats 0) hj
 refine anf <| ae Z <| ane <| ac <| anf <| apo Z Z Z <| ane <| ak <| d6 (S:=Unit) (fun _=> [(0,.slice (some ⟨gg,oo,none⟩) 1 c),(1,.func (.func f) ⟨[]⟩ ⟨post⟩),(7,ii 1),(8,ii 0)]) (fun _=>F) (fun _=>True) (fun _=>0) () av trivial ?_;rintro _ _;refine anf <| ae Z <| ane <| ac <| ar Z <| ah <| ab <| ac <| ak <| anf <| apn Z Z <| aby <| apo Z Z Z <| ay Z <| fc Z (fun w H=>di (cs:=rpC r) Z Z Z Z (fun j hj=>hcr w H j hj)) Z <| au Z Z Z (hc) <| ane <| ar Z <| anf <| apn Z Z <| ane <| aj <| az <| al <| du <| az <| al <| bh Z Z av ?_;exact ⟨rfl,rfl⟩
theorem abv (hT':∀ w,Sat b F w→TR w (bI nm tn hT hM V vv rv tv hv mv)):SC Tryz.prog yH [tbV (bI nm tn hT hM V vv rv tv hv mv),.string nm] b F (fun u F'=>u = .agg ⟨rpC (uT nm tn hT hM tv hv mv)⟩∧F'=F):=by
 have hr:∀ w,Sat b F w→SL w 3 rv 1 (q8 [uT nm tn hT hM tv hv mv]):=fun w H=>(hT' w H).r
 have hf:∀ w,Sat b F w→(∃ A n c,tv = .slice A n c)∧∃ A n c,mv = .slice A n c:=fun w H=>by
  have h:=(hT' w H).rr _ (apy.2 Z);obtain ⟨A,c,h1,_⟩:=ci h.t;obtain ⟨B,d,h2,_⟩:=ci h.m;exact ⟨⟨_,_,_,h1⟩,_,_,_,h2⟩
 refine ao Tryz.func178 Z Z Z <| bu hf ?_;rintro ⟨⟨B1,m1,c1,rfl⟩,B2,m2,c2,rfl⟩;refine bu (fun w H=>ci (hr w H)) ?_;rintro ⟨A,c,rfl,_,_,_,h4,_⟩;obtain ⟨gg,oo,rfl⟩:=h4 (by omega);have hcr:∀ w,Sat b F w→∀ j,j<3→w.cell? ⟨gg,oo+0*3+j,none⟩=(rpC (uT nm tn hT hM (.slice B1 m1 c1) hv (.slice B2 m2 c2)))[j]?:=fun w H j hj=>ej (l:= [uT nm tn hT hM (.slice B1 m1 c1) hv (.slice B2 m2 c2)]) (f:=rpC) (hr w H) (fun x hx=>by rw [apy.1 hx];rfl) (ats 0) hj
 refine anf <| br Z Z Z Z Z fun g2=>br Z Z Z Z Z fun g3=>bq Z Z Z Z Z fun g4=>ane <| ac <| anf <| ae Z <| ba 2 Z Z Z <| ae Z <| au Z Z Z (abu (up hr (af 3 [] Z)) ((V1 (r:=uT nm tn hT hM (.slice B1 m1 c1) hv (.slice B2 m2 c2)) (g:=g3)).at (af 3 [1,0,2] Z) (af 3 [1,0,2] Z))) <| ae Z <| aby <| apn Z Z <| ane <| ar Z <| anf <| ae Z <| ba 2 Z Z Z <| ae Z <| ay Z <| fc Z (fun w H=>di (cs:=rpC (uT nm tn hT hM (.slice B1 m1 c1) hv (.slice B2 m2 c2))) Z Z Z Z (fun j hj=>hcr w (H.ent (af 3 [] Z)) j hj)) Z <| cg 0 Z Z Z Z <| ane <| aj <| al <| ez Z (.whole 0 Z Z Z Z Z .nil) (af 3 [] Z) ?_
 exact ⟨rfl,rfl⟩
theorem abw (hk:dJ hT) (hT':∀ w,Sat b F w→TR w (bI nm tn hT hM V vv rv tv hv mv)):SC Tryz.prog yE [tbV (bI nm tn hT hM V vv rv tv hv mv),.string nm,.string tn] b F (fun u F'=>F'=rHs u [hT]::F):=by
 have hr:∀ w,Sat b F w→SL w 2 tv 1 (fN [(⟨tn,hv,[hT]⟩:Tg)]):=fun w H=>((hT' w H).rr _ (apy.2 Z)).t
 have hh:∀ w,Sat b F w→SL w 34 hv 1 (zm [hT]):=fun w H=>((hT' w H).rr _ (apy.2 Z)).g _ (apy.2 Z)
 refine ao Tryz.func89 Z Z Z <| bu (fun w H=>ci (hr w H)) ?_;rintro ⟨A,c,rfl,_,_,_,h4,_⟩;refine bu (fun w H=>ci (hh w H)) ?_;rintro ⟨A2,c2,rfl,_⟩;obtain ⟨gg,oo,rfl⟩:=h4 (by omega);have hcr:∀ w,Sat b F w→∀ j,j<2→w.cell? ⟨gg,oo+0*2+j,none⟩=(tgC ⟨tn,.slice A2 1 c2,[hT]⟩)[j]?:=fun w H j hj=>ej (l:= [(⟨tn,.slice A2 1 c2,[hT]⟩:Tg)]) (f:=tgC) (hr w H) (fun x hx=>by rw [apy.1 hx];rfl) (ats 0) hj
 refine anf <| br Z Z Z Z Z fun g3=>ae Z <| ane <| ac <| anf <| ba 0 Z Z Z <| ae Z <| au Z Z Z (abv (nm:=nm) (tn:=tn) (hT:=hT) (hM:=hM) (V:=V) (vv:=vv) (rv:=rv) (tv:= .slice (some ⟨gg,oo,none⟩) 1 c) (hv:= .slice A2 1 c2) (mv:=mv) (up hT' (af 1 [] Z))) <| j6 Z (E5 Z Z Z Z Z Z Z) Z <| apn Z Z <| ane <| ak <| d6 (S:=Unit) (fun _=> [(2,.string tn),(12,.slice (some ⟨gg,oo,none⟩) 1 c),(13,ii 1),(14,ii 0)]) (fun _=>F) (fun _=>True) (fun _=>0) () (af 1 [] Z) trivial ?_
 rintro _ _;refine anf <| ae Z <| ane <| ac <| ar Z <| ah <| ab <| ac <| ak <| anf <| ay Z <| fc Z (fun w H=>di (cs:=tgC ⟨tn,.slice A2 1 c2,[hT]⟩) Z Z Z Z (fun j hj=>hcr w H j hj)) Z <| bq Z Z Z Z Z fun g8=>cg 0 Z Z Z Z <| aby <| ae Z <| ba 0 Z Z Z <| apn Z Z <| ane <| Ab 21 Z Z <| ar Z <| anf <| ae Z <| ba 0 Z Z Z ?_
 refine am Z Z Z (lR (l:= [hT]) (fun w H=>hh w (H.ent (af 1 [] Z))) (fun d _=>tm d) (show 1≤1000000 by decide)) ?_;rintro u _ rfl;refine ae Z <| ane <| aj <| az <| al <| du <| az <| al <| bh Z Z (af 2 [0] Z) ?_
 rfl
theorem anc (hk:dJ hT) (hT':∀ w,Sat b F w→TR w (bI nm tn hT hM V vv rv tv hv mv)):SC Tryz.prog oK [tbV (bI nm tn hT hM V vv rv tv hv mv),.string nm,.string tn] b F (fun u F'=>F'=rD u [hT.id]::F):=by
 refine ao Tryz.func26 Z Z Z <| anf <| br Z Z Z Z Z fun g3=>ae Z <| aby <| ba 0 Z Z Z <| apn Z Z <| am Z Z Z (abw hk (nm:=nm) (tn:=tn) (hT:=hT) (hM:=hM) (V:=V) (vv:=vv) (rv:=rv) (tv:=tv) (hv:=hv) (mv:=mv) (up hT' (af 1 [] Z))) ?_
 rintro v _ rfl
 skip
 refine am Z Z Z (Me hk (fun w H=>(H.oat (k:=0) Z).sl)) ?_;rintro u _ rfl;refine ae Z <| ane <| aj <| bh Z Z (af 3 [0] Z) ?_
 rfl
end

section
variable {b:World} {F:List SP}
theorem Nxt.mv {V:List Int} {e:Ev} (h:Nxt V e) (dv rv:Value):Nxt V (e.own dv rv):=⟨h.r1,h.r2,h.n1,h.n2,h.new,h.dl,h.dn,h.nx,h.le,h.own,h.k,h.repo,h.tag⟩
theorem Yd {e:Ev} {dv rv:Value} {j k:Nat} (hj:nth F j=some (rZ dv e.deps)) (hk:nth F k=some (rD rv e.refs)):∀ w,Sat b F w→ER w (e.own dv rv):=fun w H=>⟨vlZ hj w H,(H.oat hk).sl⟩
theorem V2:SC Tryz.prog gV [] b F (fun u F'=>u = .bool true∧F'=F):=by
 obtain ⟨id,B,hX,hOf⟩:∃ id B,WX id B∧∀ {F':List SP} {vb:Value},(∀ w,Sat b F' w→VL (Value.int .u8) w vb [120])→SC Tryz.prog wL [vb] b F' (fun v G=>v=idV id∧G=F'):=⟨idL,bL,am1,fun h=>by rw [← am0];exact Xg (by decide) h⟩;have hid:=hX.ok;have h32:=hid.1;have ul:(u8s id).length=32:=by rw [bz,h32]
 refine ao Tryz.func4 Z Z Z <| anf <| ae Z <| aby <| am Z Z Z (aav (n:=1) (by decide) (by decide)) ?_;rintro _ _ ⟨vv,rfl,rfl⟩;refine b6 (fun w H=>(H.oat (k:=0) Z).form) ?_;rintro ⟨Av,cv,rfl,_⟩;refine apo Z Z Z <| bq Z Z Z Z Z fun g1=>cg 0 Z Z Z Z <| ae Z <| aby <| lp ([120].map (Value.int .u8)) Z Z Z Z Z Z Z Z Z fun gl=>G9 0 Z Z Z Z Z Z Z Z ?_
 skip
 refine au Z Z Z (hOf (fun w H=>H.ptz_vl (k:=0) Z Z (aqp _) (by omega) (fun j hj=>rfl))) ?_
 skip
 refine bq Z Z Z Z Z fun g3=> ?_;refine eh 0 Z Z Z Z Z Z Z (by rw [bz,h32];rfl) (ec _) (by simp [h32]) ?_;refine aby <| ba 2 Z Z Z <| ae Z <| lp (Cc [0]) Z Z Z Z Z Z Z Z Z fun gd=>b7 1 Z Z Z Z Z Z (ek h32) Z <| b7 1 Z Z Z Z Z Z (ek h32) Z <| li Z Z Z Z Z Z Z ul (by decide) fun gr=>Ez Z Z Z ⟨rfl,rfl,rfl,rfl,ul,rfl,trivial⟩ <| bn 24 (evV ((e1X id).own (.slice (some ⟨gd,0,none⟩) 1 1) (.slice (some ⟨gr,0,none⟩) 1 1))) Z Z <| eg (kx (t:=t_api_ID) (sz:=32) (n:=1) (v:= .slice (some ⟨gr,0,none⟩) 1 1) Z ul (by decide) 0 Z Z) ?_
 refine eg (Ie (l:= [id]) 0 Z Z (by simp [q6]) Z) ?_;refine eg (kx (t:=fp) (sz:=1) (n:=1) (v:= .slice (some ⟨gd,0,none⟩) 1 1) Z Z (by decide) 1 Z Z) <| eg (de bm 3 Z) <| eg (ee (G:= [])) ?_;refine am Z Z Z (Ix (k:=1) (t:=⟨.slice Av 1 cv,[0],.slice none 0 0,[]⟩) (e:=(e1X id).own (.slice (some ⟨gd,0,none⟩) 1 1) (.slice (some ⟨gr,0,none⟩) 1 1)) tk0 dk0 (by decide) (apj.mv _ _) (ew1 hid _ _) (show 1≤1000 by decide) (show 0≤1000 by decide) (fun p x hx=>by cases hx) (tQ (i:=7) (j:=1) (k:=0) Z Z Z) (Yd (e:=e1X id) (j:=3) (k:=2) Z Z)) ?_;rintro _ _ ⟨t1,rfl,hV1,hr1,ha1,hw1,hn1,rfl⟩;obtain ⟨hp1,tk1,dk1⟩:=am7 (id:=id) hr1 hV1 ha1 hw1;have ti1':=abt (id:=id) (t:=t1.pl) hr1 hV1 ha1;refine b6 (fun w H=>Gq (tQ (t:=t1) (i:=0) (j:=1) (k:=2) Z Z Z w H)) fun hone1=> ?_;have hfr:∀ p,∀ x∈atP p (t1.rs.map Rp.pl),x.d≠(1,2):=fun p x hx h=>by
  have h1:lj t1.V x.d.1 x.d.2=true:=ti1'.dots hx;rw [h,hV1] at h1;cases h1.symm.trans (by decide:lj (oM [0] 1 1) 1 2=false)
 refine eg (ee (G:=tbP t1)) <| eg (af 9 [7,5,0] Z) <| apo Z Z Z <| eh 0 Z Z Z Z Z Z Z Z hone1 Z <| ae Z <| aby <| ba 0 Z Z Z <| ae Z <| lp (Cc [1]) Z Z Z Z Z Z Z Z Z fun gd2=>b7 2 Z Z Z Z Z Z (ek h32) Z <| b7 2 Z Z Z Z Z Z (ek h32) Z <| li Z Z Z Z Z Z Z ul (by decide) fun gr2=>Ez Z Z Z ⟨rfl,rfl,rfl,rfl,rfl,ul,rfl,trivial⟩ <| bn 35 (evV ((e2X id).own (.slice (some ⟨gd2,0,none⟩) 1 1) (.slice (some ⟨gr2,0,none⟩) 1 1))) Z Z <| eg (kx (t:=t_api_ID) (sz:=32) (n:=1) (v:= .slice (some ⟨gr2,0,none⟩) 1 1) Z ul (by decide) 0 Z Z) ?_
 refine eg (Ie (l:= [id]) 0 Z Z (by simp [q6]) Z) ?_;refine eg (kx (t:=fp) (sz:=1) (n:=1) (v:= .slice (some ⟨gd2,0,none⟩) 1 1) Z Z (by decide) 1 Z Z) ?_;refine am Z Z Z (Ix (k:=1) (t:=t1) (e:=(e2X id).own (.slice (some ⟨gd2,0,none⟩) 1 1) (.slice (some ⟨gr2,0,none⟩) 1 1)) tk1 dk1 (by decide) (by rw [hV1];exact apk.mv _ _) (ew2 hid _ _) (show 1≤1000 by decide) (show 1≤1000 by decide) hfr (gS (k:=4) Z) (Yd (e:=e2X id) (j:=1) (k:=0) Z Z)) ?_;rintro _ _ ⟨t2,rfl,hV2,hr2,ha2,hw2,hn2,rfl⟩;rw [hV1] at hV2;obtain ⟨⟨vv2,rv2,tv2,hv2,mv2,rfl⟩,hTok⟩:=am8 (id:=id) hp1 hr2 hV2 ha2 hw2;have tk2:∀ vv rv tv hv mv,TK (bI nmA tnV (hTX id) (hMX id) [2] vv rv tv hv mv):=fun _ _ _ _ _=>ana hid hTok
 clear ha1 ha2 hw1 hw2 hr1 hr2 hV2 hn1 hn2 hfr;refine b6 (fun w H=>Gq (tQ (t:=bI nmA tnV (hTX id) (hMX id) [2] vv2 rv2 tv2 hv2 mv2) (i:=0) (j:=1) (k:=2) Z Z Z w H)) fun hone2=> ?_;generalize ht2:bI nmA tnV (hTX id) (hMX id) [2] vv2 rv2 tv2 hv2 mv2=t2 at hone2 ⊢;have tkt:TK t2:=by rw [← ht2];exact tk2 _ _ _ _ _
 have hpl:t2.pl=tX id:=by rw [← ht2];rfl
 refine eg (ee (G:=tbP t2)) <| eg (af 6 [3,4,0] Z) <| apo Z Z Z <| eh 0 Z Z Z Z Z Z Z Z hone2 Z <| ae Z <| aby <| ba 0 Z Z Z ?_;have hwd:aZ (enS (tbQ t2.pl))=(B,0):=by rw [hpl,hX.enc];rfl
 have hen:=Py (b:=b) (F:=pt g1 bt (tbC t2)::pt g3 t_api_ID (u8s id)::all (tbP t2)::F) tkt (gS (k:=2) Z) (by rw [hpl,hX.enc];show B.length≤_;rw [hX.ln];decide);rw [hwd] at hen;refine am Z Z Z (hen) ?_;rintro _ _ ⟨r,rfl,rfl⟩
 (iterate 5 refine ae Z ?_)
 refine aby <| ae Z ?_;have bl:B.length≤1000000:=by rw [hX.ln];decide
 refine am Z Z Z (Ri (B:=B) (V:= [2]) (j:=2) (i1:=5) (i2:=8) (i3:=43) (hT:=hTX id) (hM:=hMX id) (nm:=nmA) (tn:=tnV) (fun w H=>(H.oat (k:=0) Z).sl) bl hX.bo (by rw [hX.ln];decide) hX.rV hX.rj (by rw [hX.ln];decide) hX.rx hX.rm (by rw [hX.ln];decide) hX.rt hX.hT hX.hM tk2) ?_;rintro _ _ ⟨vv3,rv3,tv3,hv3,mv3,rfl,rfl⟩;refine b6 (fun w H=>Gq (tQ (t:=bI nmA tnV (hTX id) (hMX id) [2] vv3 rv3 tv3 hv3 mv3) (i:=0) (j:=1) (k:=2) Z Z Z w H)) fun hone3=> ?_;generalize ht3:bI nmA tnV (hTX id) (hMX id) [2] vv3 rv3 tv3 hv3 mv3=t3 at hone3 ⊢;have tkt3:TK t3:=by rw [← ht3];exact tk2 _ _ _ _ _
 have hpl3:t3.pl=t2.pl:=by rw [hpl,← ht3];rfl
 refine eg (ee (G:=tbP t3)) <| eg (af 5 [2,3,4,0] Z) <| apo Z Z Z <| bq Z Z Z Z Z fun g8=>bq Z Z Z Z Z fun g9=> ?_;refine eh 1 Z Z Z Z Z Z Z Z hone3 Z <| cg 0 Z Z Z Z <| ane <| ac ?_;refine cK flo 37 _ (by kernel_rfl) Z av ?_;refine p9 0 22 (by kernel_rfl) Z ?_
 (iterate 15 refine bj Z Zl ?_)
 refine cd 0 Z Z Z Z <| bj Z Zl <| dU Z (y8 Z Z (n8 0 0 0 0)) Z Z ?_;refine eu 66 (.bool true) Z (by rw [ap5 ⟨rfl,rfl⟩]) ?_;refine bj Z Zl <| bj Z Zl <| cd 1 Z Z Z Z <| cd 2 Z Z Z Z <| fe (v:= .bool true) Z Z Z Z (C9 hpl3 tkt3.w tkt.w (gS (k:=5) Z) (gS (k:=4) Z)) av <| ap <| ip av ?_;have hk:dJ (hTX id):=⟨(show lG (1,2) by decide),hid⟩;have e2:q6 [id]=u8s id:=by simp [q6]
 have hGet:∀ {F':List SP},(∀ w,Sat b F' w→TR w t2)→SC Tryz.prog oK [tbV t2,.string nmA,.string tnV] b F' (fun u G=>G=rD u [id]::F'):=fun {F'} h=>by
  have h':=anc (b:=b) (F:=F') (nm:=nmA) (tn:=tnV) (hT:=hTX id) (hM:=hMX id) (V:= [2]) (vv:=vv2) (rv:=rv2) (tv:=tv2) (hv:=hv2) (mv:=mv2) hk (by rw [ht2];exact h);rwa [ht2] at h'
 refine ve (T:=Value × Nat) 34 (List.range' 29 8) (fun s=> [(3,pp g3),(73,.bool true),(75,s.1),(77,.slice (some ⟨s.2,0,none⟩) 1 1)])
  (fun s=>pt s.2 t_api_ID (u8s id)::rD s.1 [id]::pt g9 t_api_Fault [ii 0,ii 0]::pt g8 bt (tbC t3)::pt g1 bt (tbC t2)::pt g3 t_api_ID (u8s id)::all (tbP t2)::all (tbP t3)::F) (fun _=>True) ?_ (fun J=> ?_)
 ·rintro ⟨u,gi⟩ _;dsimp only;refine p9 29 0 (by kernel_rfl) Z ?_;refine fe (v:= .bool true) Z Z Z Z (gL (l:= [id]) (fun w H=>(H.oat (k:=1) Z).sl) (fun w H=>by rw [e2];exact (H.blk (k:=0) Z).sl ul (by decide)) (fun x hx=>by rw [apy.1 hx];exact h32) (show 1≤1000000 by decide)) (af 2 [] Z) ?_;refine ap <| ip (af 2 [] Z) ?_;refine jG 30 7 (by kernel_rfl) (by kernel_rfl) Z ?_;refine bj Z Zl <| bj Z Zl <| fw 3 Z Z Z Z Z Z (ek h32) Z Z <| bj Z Zl <| dU Z (Ek (as00:=id) (bs:=List.replicate 32 0) Z Z h32 Z) Z Z ?_;refine eu 83 (.bool true) Z (by rw [aqo hX.nz];rfl) ?_;refine bj Z Zl <| bj Z Zl <| ap <| ab <| aj <| bh Z Z (af 8 [] Z) ?_;exact ⟨rfl,rfl⟩
 ·refine my (26,[23,24,25]) [(28,[23,24,27])] (by kernel_rfl) ⟨?_,?_,trivial⟩
  ·refine dZ 23 3 Z Z Z <| bj Z Zl <| bj Z Zl <| cd 2 Z Z Z Z <| dh Z Z Z Z (hGet (gS (k:=4) Z)) ?_;rintro u _ rfl;refine ⟨af 1 [] rfl,(ap <| ip (af 1 [] Z) ?_)⟩;refine p9 27 1 (by kernel_rfl) Z ?_;refine fw 3 Z Z Z Z Z Z (ek h32) Z Z <| yr (cs:=u8s id) Z Z Z Z Z Z Z Z ul (by decide) (af 1 [] Z) fun gi=>ap <| ip (af 2 [] Z) ?_
   exact J (u,gi) _ _ _ trivial (by kernel_rfl) ⟨rfl,rfl,rfl,rfl,trivial⟩ av
  ·refine i6 23 2 (L2:= [27]) Z Z <| bj Z Zl <| bj Z Zl <| ap <| pk av <| dZ 27 1 Z Z Z <| fw 3 Z Z Z Z Z Z (ek h32) Z Z <| yr (cs:=u8s id) Z Z Z Z Z Z Z Z ul (by decide) av fun gi=>ap <| ip (af 1 [] Z) ?_
   refine p9 25 1 (by kernel_rfl) Z ?_;refine cd 2 Z Z Z Z <| dh Z Z Z Z (hGet (gS (k:=5) Z)) ?_;rintro u _ rfl;refine ⟨af 2 [] rfl,(ap <| ip (af 2 [] Z) ?_)⟩;exact J (u,gi) _ _ _ trivial (by kernel_rfl) ⟨rfl,rfl,rfl,rfl,trivial⟩ (af 2 [1,0] Z)
end

set_option maxHeartbeats 16000000 in
theorem uU {W:World} {v:Value} {xss:List (List Int)} {x:Int} (hP:lV W) (hl:LB W v xss) (hx:I64 x):Calls Tryz.prog zy #[v,ii x] W (fun e w'=>e = .returned (.bool true)∧Ext W w'):=by
 refine Y1 (args:= [v,ii x]) ?_;obtain ⟨A0,c0,rfl,f1,f2,f3⟩:=hl.get;refine ao Tryz.func3 Z Z Z <| anf <| ae Z <| aby <| au Z Z Z (V2) <| ae Z <| ane <| ac <| anf <| ae Z ?_;refine am Z Z Z (Cg hl Z (by unfold I64;decide) (by unfold I64;decide)) ?_;rintro _ _ ⟨bad,hb,rfl,rfl⟩;cases bad with
 | true =>
  refine ane <| ar Z <| anf <| apn Z Z <| ane <| aj <| al <| bh Z Z av ?_;exact ⟨rfl,rfl⟩
 | false =>
  obtain ⟨hn8,h60⟩:=hb Z;have hn8':xss.length≤8:=by omega
  refine ane <| ai Z <| ah <| ab <| anf <| ae Z ?_;refine au Z Z Z (Zk (by unfold I64;decide)) ?_;have hm0:0≤x % 32:=atw _ (by decide);have hm1:x % 32<32:=ate _ (by decide);rw [if_neg (by decide)];generalize x % 32=x1 at *;refine ay Z <| ae Z <| aby <| ae Z ?_;have hw:1≤1+x1∧1+x1≤32:=by omega
  generalize 1+x1=w at *;clear hm0 hm1 hb;refine am Z Z Z (abj hw) ?_;rintro _ _ ⟨gx,A1,c1,rfl,rfl⟩
  (iterate 5 refine ae Z ?_)
  refine aby <| ae Z ?_;refine am Z Z Z (Fv (w:=w) (r:=67108864) ⟨by omega,by omega,by omega,by omega⟩) ?_;rintro _ _ ⟨gs,gm,rfl,rfl⟩
  (iterate 5 refine ae Z ?_)
  refine aby <| am Z Z Z (aa9 (lim:=1099511627776) (s:=sAB) (by omega) (by omega)) ?_;rintro _ _ ⟨gq,gl,gu,h1,rfl,rfl⟩
  (iterate 5 refine ae Z ?_)
  refine ane <| ac <| anf ?_
  (iterate 22 refine ae Z ?_)
  refine ane <| ai Z <| ah <| ab <| anf ?_
  (iterate 5 refine ae Z ?_)
  refine bq Z Z Z Z Z fun g12=>cg 0 Z Z Z Z <| aby <| ae Z ?_
  refine am Z Z Z ((Dp hl Z (by omega) (fun xs hxs=>by have:=h60 xs hxs;omega)).ent (af 12 [11,0,1,2,3,4,5,6,7,8,9,10] Z)) ?_;rintro v0 _ ⟨lb,hlb,rfl⟩;have hlbn:lb.length=xss.length:=by rw [← hlb,ap9]
  refine lp (cfB.map (Value.int .u8)) Z Z Z Z Z Z Z Z Z fun g77=>G9 0 Z Z Z Z Z Z Z Z <| lp [.slice (some ⟨g77,0,none⟩) 6 6] Z Z Z Z Z Z Z Z Z fun g79=> ?_;refine ef 2 Z Z Z Z Z Z Z Z Z (m:=1) (news:= [.slice (some ⟨g77,0,none⟩) 6 6]) (fun w H=>(H.blk (k:=0) Z).sl Z (by decide)) (fun u hu=>by rw [apy.1 hu];rfl) (by omega) (fun _=>rfl) fun v8=> ?_;refine b6 (fun w H=>(H.oat (k:=2) Z).form) ?_;rintro ⟨Av,cv,rfl,_,_,hAv⟩;refine ae Z <| aby <| ae Z <| bn 81 (.agg ⟨mfC ⟨3,tT,dcZ,[],[]⟩ (.slice none 0 0) (.slice none 0 0)⟩) Z Z <| bq Z Z Z Z Z fun g14=> ?_;have hml:(mfC ⟨3,tT,dcZ,[],[]⟩ (.slice none 0 0) (.slice none 0 0)).length=39:=jz (m:=⟨3,tT,dcZ,[],[]⟩) Z;refine cg 0 Z Z Z Z <| ane <| ac <| anf <| ae Z <| ane <| ak ?_;have hn:lb.length+1=xss.length+1:=by rw [hlbn]
  refine d6 (S:=UpS) (fun z=> [(1,ii w),(4,.bool false),(5,.bool true),(6,pp gx),(8,pp gs),(10,pp gq),(12,pp g12),(13,.slice Av (lb.length+1) cv),(14,pp g14),(15,ii z.i)])
   (fun z=>pt g14 b9 (mfC (mfI w xss z.i) z.lv (.slice none 0 0))::rDs z.lv ((xss.take z.i).map (dcO 2 w))::shP gx w ((z.i:Int)+1) z.A z.c gs gm 67108864 z.u z.l gq gl gu z.gv 1099511627776 z.h sAB z.L (pt g12 ey [ii w,pp gx,pp gs,pp gq]::row eo 1 (.slice Av (lb.length+1) cv) (lb.length+1) (lb.map Bl.v ++ [.slice (some ⟨g77,0,none⟩) 6 6])::all (blF lb)::ptz g77 im (6,7) (cfB.map (Value.int .u8)) :: [Is W]))
   (fun z=>UpI w xss z) (fun z=>xss.length+1 - z.i) ⟨0,A1,c1,[],0,[],0,h1,.slice none 0 0⟩ ?_ ?_ ?_
  ·exact (af 17 [0,14,15,16,11,12,13,7,8,9,10,6,3,4,2,5] Z).trans ((de t_api_Desc 35 Z).trans (af 2 [1,0] Z))
  ·exact ⟨aqc _,Shp.nil w,aqp _,fun y=>by simp,fun q=>by cases q⟩
  rintro z hz;have hzn:=hz.n;refine ac <| anf <| apo Z Z Z <| ae Z <| ane ?_;refine cj Z (fun g1=> ?_) (fun g1=> ?_)
  ·have g1':z.i<xss.length+1:=by omega
   obtain ⟨gA,oA,rfl⟩:=hAv (by omega);obtain ⟨ui,T,hT,hTl,hcell,hvl⟩:∃ ui T,(xss ++ [cfB])[z.i]? = some T∧(T.length≤60∧jd T)∧(∀ w',Sat W (pt g12 ey [ii w,pp gx,pp gs,pp gq]::row eo 1 (.slice (some ⟨gA,oA,none⟩) (lb.length+1) cv) (lb.length+1) (lb.map Bl.v ++ [.slice (some ⟨g77,0,none⟩) 6 6])::all (blF lb)::ptz g77 im (6,7) (cfB.map (Value.int .u8)) :: [Is W]) w'→w'.cell? ⟨gA,oA+z.i,none⟩=some ui)∧(∀ w',Sat W (pt g12 ey [ii w,pp gx,pp gs,pp gq]::row eo 1 (.slice (some ⟨gA,oA,none⟩) (lb.length+1) cv) (lb.length+1) (lb.map Bl.v ++ [.slice (some ⟨g77,0,none⟩) 6 6])::all (blF lb)::ptz g77 im (6,7) (cfB.map (Value.int .u8)) :: [Is W]) w'→VL (Value.int .u8) w' ui T):=by
    by_cases hin:z.i<xss.length
    ·have hin2:z.i<lb.length:=by omega
     have e1:xss[z.i]=lb[z.i].b:=by simp only [← hlb,aq7]
     obtain ⟨_,_,_,_,_,_,_,hbw⟩:=f3 z.i hin;refine ⟨lb[z.i].v,xss[z.i],by rw [aq6 hin,apv hin],⟨by have:=h60 _ (apw hin);omega,hbw⟩,fun w' H=> ?_,fun w' H=>by rw [e1];exact amv (k:=2) Z hin2 w' H⟩;exact (kJ ((H.oat (k:=1) Z).sl) (by simp;omega)).trans (by rw [aq6 (by simpa using hin2)];simp [hin2])
    ·have hin2:z.i=lb.length:=by omega
     have hin3:z.i=xss.length:=by omega
     refine ⟨.slice (some ⟨g77,0,none⟩) 6 6,cfB,by rw [hin3];simp,⟨by decide,Yc⟩,fun w' H=> ?_,fun w' H=>H.ptz_vl (k:=3) Z Z (aqp _) (by omega) (fun j hj=>rfl)⟩;exact (kJ ((H.oat (k:=1) Z).sl) (by simp;omega)).trans (by rw [hin2];simp)
   have hce:dH w=0:=by unfold dH;rw [if_neg (by omega)]
   have hid:idOk (dq (dt T) w):=jv _ _;have hTl1:=hTl.1;refine ah <| ab <| ac <| ak <| anf <| apn Z Z <| ay Z ?_;refine fc Z (fun w' H=>bx Z Z Z (by rw [b5,apu,aq8];exact hcell w' (H.ent (af 12 [] Z)))) Z ?_;refine b6 (fun w' H=>(hvl w' (H.ent (af 12 [] Z))).form) ?_;rintro ⟨Au,cu,rfl,_,_,_,_⟩;refine ae Z <| au Z Z Z (Kk (xs:=T) (w:=w) (by omega) (fun w' H=>hvl w' (H.ent (af 12 [] Z)))) ?_;rw [hce];refine apo Z Z Z <| bq Z Z Z Z Z fun g16=> ?_
   skip
   refine eh 0 Z Z Z Z Z Z Z (by rw [bz,hid.1];rfl) (ec _) (by simp [hid.1]) ?_;refine ae Z <| aby <| ae Z <| b7 0 Z Z Z Z Z Z (ek hid.1) Z <| am Z Z Z ((api (l:=z.l) hid hz.s.k.b).ent (af 13 [6,7,8,0,1,2,3,4,5,9,10,11,12] Z)) ?_;rintro _ _ ⟨v1,is,B,rfl,hg,rfl⟩;refine b6 (fun w H=>(H.oat (k:=0) Z).form) ?_;rintro ⟨A7,c7,rfl,_,_,_⟩
   (iterate 5 refine ae Z ?_)
   refine ane ?_;refine qY (S:=Unit) (fun _=> [(1,ii w),(4,.bool false),(5,.bool true),(6,pp gx),(8,pp gs),(10,pp gq),(12,pp g12),(13,.slice (some ⟨gA,oA,none⟩) (lb.length+1) cv),(14,pp g14),(15,ii z.i),(16,pp g16)])
    (fun _=>pt g14 b9 (mfC (mfI w xss z.i) z.lv (.slice none 0 0))::rDs z.lv ((xss.take z.i).map (dcO 2 w))::shP gx w ((z.i:Int)+1) z.A z.c gs gm 67108864 z.u z.l gq gl gu z.gv 1099511627776 z.h sAB z.L (pt g12 ey [ii w,pp gx,pp gs,pp gq]::row eo 1 (.slice (some ⟨gA,oA,none⟩) (lb.length+1) cv) (lb.length+1) (lb.map Bl.v ++ [.slice (some ⟨g77,0,none⟩) 6 6])::all (blF lb)::ptz g77 im (6,7) (cfB.map (Value.int .u8)) :: [Is W]))
    (fun _=>(∀ e,eq (dq (dt T) w) z.l=some e→e.b=T)∧(z.i=xss.length→eq (dq (dt T) w) z.l=none)) ?_ (fun _ hJ=> ?_)
   ·cases is with
    | false =>
     have hno:=(hg.resolve_right fun q=>by cases q.1).2;refine anf ?_
     (iterate 17 refine ae Z ?_)
     refine ane <| ai Z <| ah ?_;exact iR () (af 14 [5,6,7,8,9,1,2,3,10,11,12,13] Z) ⟨fun e q=>(by rw [hno] at q;cases q),fun _=>hno⟩
    | true =>
     obtain ⟨e,he,hel,rfl⟩:=(hg.resolve_left fun q=>by cases q.1).2;refine anf ?_
     (iterate 5 refine ae Z ?_)
     refine ay Z <| apn Z Z ?_;by_cases hin:z.i=xss.length
     ·refine dR 110 Z ?_
      (iterate 9 refine ae Z ?_)
      refine ane <| ar Z <| anf <| apn Z Z <| ane <| aj <| du <| az <| al <| du <| az <| al <| bh Z Z (af 19 [18] Z) ?_;exact ⟨rfl,rfl⟩
     ·refine qp 110 Z <| apo Z Z Z <| ay Z ?_;refine fc Z (fun w' H=>bx Z Z Z (by rw [b5,apu,aq8];exact hcell w' (H.ent (af 14 [] Z)))) Z ?_;refine au Z Z Z (fF (xs:=e.b) (ys:=T) (vlB (l:=e.b) (k:=0) Z) (fun w' H=>hvl w' (H.ent (af 14 [] Z))) (hz.s.b e hel) hTl.2) ?_;by_cases heq:e.b=T
      ·rw [ap5 heq];refine apo Z Z Z <| ane <| ai Z <| ah ?_;exact iR () (af 14 [5,6,7,8,9,1,2,3,10,11,12,13] Z) ⟨fun e' q=>(by rw [he] at q;cases q;exact heq),fun q=>absurd q hin⟩
      ·rw [aqo heq];refine apo Z Z Z <| ane <| ar Z <| anf <| apn Z Z <| ane <| aj <| du <| az <| al <| du <| az <| al <| bh Z Z (af 19 [18] Z) ?_;exact ⟨rfl,rfl⟩
   ·obtain ⟨hJ1,hJ2⟩:=hJ;refine anf <| ae Z <| ane <| ac <| anf <| apo Z Z Z <| ay Z <| ae Z <| ane ?_;refine Hl (S:=Int) (fun k=> [(1,ii w),(4,.bool false),(5,.bool true),(6,pp gx),(8,pp gs),(10,pp gq),(12,pp g12),(13,.slice (some ⟨gA,oA,none⟩) (lb.length+1) cv),(14,pp g14),(15,ii z.i),(20,ii k)])
     (fun _=>pt g14 b9 (mfC (mfI w xss z.i) z.lv (.slice none 0 0))::rDs z.lv ((xss.take z.i).map (dcO 2 w))::shP gx w ((z.i:Int)+1) z.A z.c gs gm 67108864 z.u z.l gq gl gu z.gv 1099511627776 z.h sAB z.L (pt g12 ey [ii w,pp gx,pp gs,pp gq]::row eo 1 (.slice (some ⟨gA,oA,none⟩) (lb.length+1) cv) (lb.length+1) (lb.map Bl.v ++ [.slice (some ⟨g77,0,none⟩) 6 6])::all (blF lb)::ptz g77 im (6,7) (cfB.map (Value.int .u8)) :: [Is W]))
     (fun k=>k=if z.i=xss.length then 1 else 2) ?_ (fun hj=> ?_)
    ·intro k hk;have hln:z.l.length≤9:=by have:=hz.k;omega
     have hcome:=fun (F:List SP) (hb:∀ w',Sat W F w'→VL (Value.int .u8) w' (.slice Au T.length cu) T)=>Vs (b:=W) (F:=F) (gx:=gx) (gs:=gs) (gm:=gm) (gq:=gq) (gl:=gl) (gu:=gu) (gv:=z.gv) (c:=z.c) (A:=z.A) (w:=w) (r:=67108864) (u:=z.u) (lim:=1099511627776) (nx:=(z.i:Int)+1) (kind:=k) (s:=sAB) (l:=z.l) (L:=z.L) (h:=z.h) hb hTl1 hTl.2 hw Z Z (by omega) (by decide) Rf hz.s (by omega) hJ1
     refine ac ?_;refine cK flo 13 (pt g12 ey [ii w,pp gx,pp gs,pp gq]::row eo 1 (.slice (some ⟨gA,oA,none⟩) (lb.length+1) cv) (lb.length+1) (lb.map Bl.v ++ [.slice (some ⟨g77,0,none⟩) 6 6])::all (blF lb)::ptz g77 im (6,7) (cfB.map (Value.int .u8)) :: [Is W]) (by kernel_rfl) Z (af 12 [] Z) ?_;refine ve (T:=Nat × UpS) 11 [7,8,9,11,12] (fun s=> [(1,ii w),(4,.bool false),(5,.bool true),(6,pp gx),(8,pp gs),(10,pp gq),(12,pp g12),(13,.slice (some ⟨gA,oA,none⟩) (lb.length+1) cv),(14,pp g14),(15,ii z.i),(20,ii k),(21,pp s.1),(133,.tuple ⟨[.agg ⟨dcC ⟨k,dq (dt T) w,T.length,⟨#[]⟩⟩⟩,.bool true]⟩)])
      (fun s=>pt s.1 t_api_Desc (dcC dcZ)::shP gx w ((z.i:Int)+1+1) s.2.A s.2.c gs gm 67108864 s.2.u s.2.l gq gl gu s.2.gv 1099511627776 s.2.h sAB s.2.L (pt g14 b9 (mfC (mfI w xss z.i) z.lv (.slice none 0 0))::rDs z.lv ((xss.take z.i).map (dcO 2 w))::pt g12 ey [ii w,pp gx,pp gs,pp gq]::row eo 1 (.slice (some ⟨gA,oA,none⟩) (lb.length+1) cv) (lb.length+1) (lb.map Bl.v ++ [.slice (some ⟨g77,0,none⟩) 6 6])::all (blF lb)::ptz g77 im (6,7) (cfB.map (Value.int .u8)) :: [Is W]))
      (fun s=>Shp w s.2.l s.2.u s.2.L∧s.2.l.length≤z.l.length+1∧∀ y,(∃ e∈s.2.l,e.b=y)↔(∃ e∈z.l,e.b=y)∨y=T) ?_ (fun J=> ?_)
     ·rintro ⟨g21,s⟩ ⟨s1,s2,s3⟩;dsimp only at s1 s2 s3 ⊢;refine my (11,[7,8]) [] (by kernel_rfl) ⟨i6 7 2 (L2:= []) Z Z ?_,trivial⟩;refine bj Z Zl <| bj Z Zl <| ap <| pk (af 13 [] Z) <| fz _ Z av ?_;refine yc (vs:=dcC ⟨k,dq (dt T) w,T.length,⟨#[]⟩⟩) 0 Z Z Z Z Z Z Z Z (d8 hid.1) jq (by rw [d8 hid.1];rfl) (af 13 [] Z) ?_;refine ap (ip (af 13 [] Z) (kN 9 1 12 1 (by kernel_rfl) (by kernel_rfl) Z ?_));refine bj Z Zl <| ap <| Nm Z (af 13 [] Z) <| bj Z Zl <| ap <| ab <| ac <| anf <| apn Z Z <| ane <| ai Z <| ah <| ab <| anf <| apn Z Z <| ane ?_;by_cases hin:z.i=xss.length
      ·rw [if_pos hin] at hk;subst hk;refine ai Z <| aa ?_;refine b7 0 Z Z Z Z Z Z (cp (by rw [d8 hid.1];rfl)) Z ?_;refine ae Z ?_;refine mE (vs:=dcC (dcO 1 w T)) (cs':=mfC ⟨(mfI w xss z.i).kind,(mfI w xss z.i).title,dcO 1 w T,(mfI w xss z.i).layers,(mfI w xss z.i).subs⟩ z.lv (.slice none 0 0)) 11 Z Z Z Z Z Z (by rw [d8 hid.1];rfl) (aqm.2 jq) Z (I6 G1 hid.1) Z ?_;refine ad <| bg <| ab <| aa <| ae Z <| ay Z <| ae Z <| ad ?_;rw [show (z.i:Int)+1=((z.i+1:Nat):Int) by omega];refine i9 ⟨z.i+1,s.A,s.c,s.l,s.u,s.L,s.gv,s.h,z.lv⟩ (by dsimp only;rw [abr hin hT,amz hin,Rh hin];exact af 17 [11,12,1,2,3,4,5,6,7,8,9,10,13,14,15,16] Z) (hz.next hT Z s1 s2 s3 hJ2) (show xss.length+1 - (z.i+1)<xss.length+1 - z.i by omega)
      ·rw [if_neg hin] at hk;subst hk;have hlt:z.i<xss.length:=by omega
       refine ar Z <| aa <| ae Z <| ix 11 Z Z Z Z Z Z (oU G1) Z ?_;refine b7 0 Z Z Z Z Z Z (cp (by rw [d8 hid.1];rfl)) Z ?_;refine li Z Z Z Z Z Z Z (d8 hid.1) (by decide) fun gl2=> ?_;refine ef 13 Z Z Z Z Z Z Z Z Z (m:=1) (news:=dcC (dcO 2 w T)) (fun w H=>(H.blk (k:=0) Z).sl (d8 hid.1) (by decide)) jq (by rw [ap9,ap7];omega) (fun _=>rfl) fun v8=> ?_;refine b6 (fun w H=>(H.oat (k:=13) Z).form) ?_;rintro ⟨A9,c9,rfl,_,_,_⟩;refine ae Z <| dS (cs':=mfC (mfI w xss z.i) (.slice A9 (((xss.take z.i).map (dcO 2 w)).length+1) c9) (.slice none 0 0)) 12 Z Z Z Z Z Z Z Z (I7 G1) Z <| ad <| bg <| ab <| aa <| ae Z <| ay Z <| ae Z <| ad ?_;rw [show (z.i:Int)+1=((z.i+1:Nat):Int) by omega];refine i9 ⟨z.i+1,s.A,s.c,s.l,s.u,s.L,s.gv,s.h,.slice A9 (((xss.take z.i).map (dcO 2 w)).length+1) c9⟩ (by dsimp only;rw [amy hlt,V0 hT hlt,aqa,aqt,as9,Rg];exact af 18 [12,13,2,3,4,5,6,7,8,9,10,11,14,15,16,17] Z) (hz.next hT Z s1 s2 s3 hJ2) (show xss.length+1 - (z.i+1)<xss.length+1 - z.i by omega)
     ·refine my (6,[0,1,2,3,4,5]) [(10,[])] (by kernel_rfl) ⟨dZ 0 6 Z Z Z ?_,fz _ Z av ?_,trivial⟩
      ·refine cd 0 Z Z Z Z <| bj Z Zl <| bj Z Zl <| bj Z Zl <| dx Z Z ?_;refine j7 Z (fun w' H=>bx Z Z Z (by rw [b5,apu,aq8];exact hcell w' H)) Z Z ?_;refine dh Z Z Z Z ((hcome _ (fun w' H=>hvl w' (H.ent (af 2 [] Z)))).ent (af 12 [2,3,4,5,6,7,8,9,10,11,0,1] Z)) ?_;rintro _ _ ⟨A2,c2,l2,u2,L2,gv2,h2,rfl,s1,s2,s3,rfl⟩;refine ⟨af 12 [] rfl,?_⟩;refine ap (ip (af 12 [] Z) (p9 10 0 (by kernel_rfl) Z ?_));refine iz Z Z Z Z Z Z (af 12 [] Z) fun g21=>ap <| ip (af 13 [] Z) ?_
       exact J (g21,⟨z.i,A2,c2,l2,u2,L2,gv2,h2,z.lv⟩) _ _ _ ⟨s1,s2,s3⟩ (by kernel_rfl) ⟨rfl,rfl,rfl,rfl,rfl,rfl,rfl,rfl,rfl,rfl,rfl,rfl,rfl,trivial⟩ av
      ·refine iz Z Z Z Z Z Z (af 12 [] Z) fun g21=> ?_;refine ap (ip (af 13 [] Z) (p9 0 6 (by kernel_rfl) Z ?_));refine cd 0 Z Z Z Z <| bj Z Zl <| bj Z Zl <| bj Z Zl <| dx Z Z ?_;refine j7 Z (fun w' H=>bx Z Z Z (by rw [b5,apu,aq8];exact hcell w' H)) Z Z ?_;refine dh Z Z Z Z ((hcome _ (fun w' H=>hvl w' (H.ent (af 3 [] Z)))).ent (af 13 [3,4,5,6,7,8,9,10,11,12,0,1,2] Z)) ?_;rintro _ _ ⟨A2,c2,l2,u2,L2,gv2,h2,rfl,s1,s2,s3,rfl⟩;refine ⟨af 13 [] rfl,(ap <| ip (af 13 [] Z) ?_)⟩;exact J (g21,⟨z.i,A2,c2,l2,u2,L2,gv2,h2,z.lv⟩) _ _ _ ⟨s1,s2,s3⟩ (by kernel_rfl) ⟨rfl,rfl,rfl,rfl,rfl,rfl,rfl,rfl,rfl,rfl,rfl,rfl,rfl,trivial⟩ (af 13 [10,0,1,2,3,4,5,6,7,8,9,11,12] Z)
    ·refine cj Z (fun hin=> ?_) (fun hin=> ?_)
     ·refine aa <| ae Z <| ad ?_;exact hj 1 _ _ (if_pos (by omega)).symm ⟨rfl,rfl,rfl,rfl,rfl,rfl,rfl,rfl,rfl,rfl,rfl,trivial⟩ av
     ·refine ah ?_;exact hj 2 _ _ (if_neg (by omega)).symm ⟨rfl,rfl,rfl,rfl,rfl,rfl,rfl,rfl,rfl,rfl,rfl,trivial⟩ av
  ·have hin:z.i=xss.length+1:=by omega
   have hb60:∀ x∈xss,x.length≤60∧jd x:=fun x hx=>by
    obtain ⟨j,hj,rfl⟩:=asu.1 hx;obtain ⟨_,_,_,_,_,_,_,hbw⟩:=f3 j hj;exact ⟨by have:=h60 _ (apw hj);omega,hbw⟩
   have hI:=hz.img hw hin hn8' hb60;rw [show mfI w xss z.i=tp w xss cfB by rw [hin];exact Vz,show xss.take z.i=xss from aqh (by omega)];have hc32:(tp w xss cfB).cfg0.id.length=32:=(jv _ _).1;have hzl:z.l.length≤20:=by have:=hz.k;omega
   have hlay:(tp w xss cfB).layers=xss.map (dcO 2 w):=rfl;refine bu (fun w H=>(H.oat (k:=1) Z).form) ?_;rintro ⟨A5,c5,hlv,_,_,_⟩;refine b8 <| aw <| ax <| aq <| ab <| anf ?_;refine b7 0 Z Z Z Z Z Z (cp (by rw [jz hc32];rfl)) Z ?_;refine am Z Z Z (nR hI.ok.W (fun w' H=>⟨(H.oat (k:=1) Z).sl,SL.nil w' 35⟩)) ?_;rintro _ _ ⟨rv,rfl,rfl⟩;refine b6 (fun w H=>(H.oat (k:=0) Z).form) ?_;rintro ⟨A6,c6,rfl,_,_,_⟩
   (iterate 5 refine ae Z ?_)
   refine aby <| apn Z Z ?_;refine am Z Z Z (abq (k:=17) Z hP hI.ok.W Z Z hw hI.ok.th (by rw [qK];simp;omega) (vlB (l:=mfB (tp w xss cfB)) (k:=0) Z)) ?_;rintro _ _ ⟨lv2,sv2,rfl,rfl⟩;refine b6 (fun w H=>(H.oat (k:=0) Z).form) ?_;rintro ⟨A7,c7,rfl,_,_,_⟩;refine b6 (fun w H=>(H.oat (k:=1) Z).form) ?_;rintro ⟨A8,c8,rfl,_,_,_⟩;refine apo Z Z Z <| bq Z Z Z Z Z fun g25=> ?_;refine eh 0 Z Z Z Z Z Z Z (jz hc32) (y4 Z Z) (by rw [jz hc32];rfl) ?_;refine ae Z <| ane <| ac <| anf ?_
   (iterate 7 refine ae Z ?_)
   refine b7 0 Z Z Z Z Z Z (cp (by rw [jz hc32];rfl)) Z ?_;refine b7 4 Z Z Z Z Z Z (cp (by rw [jz hc32];rfl)) Z ?_;refine au Z Z Z (uO hc32 (fun d hd=>(hI.ok.lS d hd).id.1) (fun d hd=>by cases hd) (fun w' H=>⟨(H.oat (k:=1) Z).sl,(H.oat (k:=2) Z).sl⟩) (fun w' H=>⟨(H.oat (k:=5) Z).sl,SL.nil w' 35⟩) (by rw [hlay,ap9];omega) (aqc 1000000)) ?_;refine apn Z Z <| ane <| ai Z <| ah <| ab <| anf <| apn Z Z <| ba 16 Z Z Z <| ae Z ?_;refine b7 4 Z Z Z Z Z Z (cp (by rw [jz hc32];rfl)) Z ?_;rw [hlv];refine am Z Z Z ((Vy (gx:=gx) (gs:=gs) (gm:=gm) (gq:=gq) (gl:=gl) (gu:=gu) (gv:=z.gv) (c:=z.c) (A:=z.A) (w:=w) (nx:=(z.i:Int)+1) (l:=z.l) (u:=z.u) (L:=z.L) (h:=z.h) hI hz.s hzl (hz.all hin) Z Z (vlB (l:=mfB (tp w xss cfB)) (k:=0) Z) hc32).ent (af 20 [6,7,8,9,10,11,12,13,14,15,3] Z)) ?_;rintro _ _ ⟨rfl,rfl⟩;refine apn Z Z <| ane <| aj <| bh Z Z (af 1 [] Z) ?_;exact ⟨rfl,rfl⟩
end Go.Proofs.YtbfailbgdnpaiaaGreatDoor
