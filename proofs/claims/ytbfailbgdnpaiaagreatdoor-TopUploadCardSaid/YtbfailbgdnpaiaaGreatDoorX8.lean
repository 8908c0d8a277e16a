/- Events: which are the same (told for like and unlike). Conditions: not too many references. -/
import Derived.Test.YtbfailbgdnpaiaaGreatDoorX6
import Derived.Test.YtbfailbgdnpaiaaGreatDoorX7
import Derived.Test.YtbfailbgdnpaiaaGreatDoorX3
set_option maxRecDepth 20000
set_option maxHeartbeats 8000000
namespace Go.Proofs.YtbfailbgdnpaiaaGreatDoor
open Go.Eng Go.RowKit Go.WideMaps

section
variable {b:World} {F:List SP} {e f:Ev}
end
open Go Go.Heap

section
variable {b:World} {F:List SP}
end

section
variable {b:World} {F:List SP}
end

structure Ag where
 kind:Int
 e:Ev
 frm:Int
 d:Int × Int
 id:List Int
 bv:Value
 bs:List Int
section
variable {b:World} {F:List SP} {is:Bool} {e:Int} {v:Value} {xs:List Int}
end
section
variable {b:World} {F:List SP} {v:Value} {l:List Ag}
end

structure GI (n:Nat) (w:Int) (V:List Int) (L:List Wn) (C:CL) (X:BL):Prop where
 q:QI n V L
 nd:(C.map (·.1)).Nodup
 ref:∀ d,∀ x∈cfm d C,apc L d x=true
 rise:RC' C
 ids:∀ d,∀ x∈cfm d C,idOk x
 got:∀ d,∀ x∈cfm d C,∃ b,Xt x X=some b∧dg b w=x
section
variable {n:Nat} {w:Int} {V:List Int} {L:List Wn} {C:CL} {X:BL} (h:GI n w V L C X)
include h
end
section
variable {n:Nat} {w:Int} {X:BL}
end

structure Ih (n:Nat) (l:List Ev):Prop where
 n1:1≤n
 n2:n≤16
 fit:∀ e∈l,Xl n e 1=true
 kind:∀ e∈l,1≤e.kind∧e.kind≤4
 repo:∀ e∈l,jk (dz e.repo)=(0,0)
 tag:∀ e∈l,e.kind=3∨e.kind=4→cB (dz e.tag)=(0,0)
 nd:(l.map iL).Nodup
 dep:∀ e∈l,∀ i (hi:i<e.deps.length),e.deps[i]≠0→∃ f∈l,iL f=((i:Int)+1,e.deps[i])∧jP f.deps e.deps=true
section
variable {n:Nat} {l:List Ev} (hG:Ih n l)
include hG
end
structure OfL (l:List Ev) (L:List Wn) (out:List Ev):Prop where
 inL:∀ w∈L,∃ x∈l,nE x=nE w.e
 out:∀ e∈out,∃ x∈l,nE x=nE e

def wh (V:List Int) (L:List Wn) (C:CL) (x:Ev):Prop:=lj V x.r x.n=true∨((∃ w∈L,S9 w=iL x)∧∀ m∈x.refs,m∈cfm (iL x) C)
structure LI (n:Nat) (w:Int) (l:List Ev) (R:List (List Int)) (k:Nat) (V:List Int) (L:List Wn) (C:CL) (X:BL) (out:List Ev):Prop where
 g:GI n w V L C X
 q:Qp (l.map em) V L out
 o:OfL l L out
 dn:∀ x∈l.take k,wh V L C x∧x.refs.Nodup
 xn:(X.map (·.1)).Nodup
 xr:∀ e∈X,e.1∈R∧e.2.length≤60
section
variable {n:Nat} {w r:Int} {l:List Ev} {R:List (List Int)} {k:Nat} {V:List Int} {L:List Wn} {C:CL} {X:BL} {out:List Ev} (h:LI n w l R k V L C X out)
include h
end
section
variable {n:Nat} {w:Int} {l:List Ev} {R:List (List Int)} {k:Nat} {V:List Int} {L:List Wn} {C:CL} {X:BL} {out:List Ev} (h:LI n w l R k V L C X out) (hG:Ih n l)
include h hG
end

def Ii (r:RP):List (Int × Int):=(r.ts.flatMap fun g=>g.hs.map (·.d))++r.ms.map (·.d)
def oS (l:List RP):List (Int × Int):=l.flatMap Ii
structure Tok (t:TB):Prop where
 n1:1≤t.V.length
 n2:t.V.length≤16
 vo:tA t.V
 nm:∀ r∈t.rs,jk (dz r.nm)=(0,0)∧∀ g∈r.ts,cB (dz g.nm)=(0,0)
 rs:zk t.rs
 nd:(oS t.rs).Nodup
 has:∀ d∈oS t.rs,lj t.V d.1 d.2=true
theorem gQ {l:List RP} (h:zk l) {r:RP} (hr:r∈l) {g:TG} (hg:g∈r.ts):atP ⟨r.nm,some g.nm⟩ l=g.hs:=by
 rw [y3 h.rs hr rfl];exact gP (h.ok r hr).ts hg
theorem yX {l:List RP} (h:zk l) {r:RP} (hr:r∈l):atP ⟨r.nm,none⟩ l=r.ms:=y3 h.rs hr Z
theorem K8 {l:List RP} (h:zk l) {d:Int × Int} (hd:d∈oS l):∃ p,∃ x∈atP p l,x.d=d:=by
 obtain ⟨r,hr,hd⟩:=as3.1 hd;rcases ap6.1 hd with hd | hd
 ·obtain ⟨g,hg,hd⟩:=as3.1 hd;obtain ⟨x,hx,rfl⟩:=ap8.1 hd;exact ⟨_,x,by rw [gQ h hr hg];exact hx,rfl⟩
 ·obtain ⟨x,hx,rfl⟩:=ap8.1 hd;exact ⟨_,x,by rw [yX h hr];exact hx,rfl⟩
theorem xB {l:List Hd} (h:t8 l):(l.map (·.d)).Nodup:=by
 rw [List.nodup_iff_pairwise_ne,List.pairwise_map];exact h.imp fun {a c} hac he=>by rw [he] at hac;exact T7 _ hac
theorem Xu {α:Type} {f:α→ByteArray} {l:List α} (h:l.Pairwise fun a b=>cbN (f a) (f b)<0):l.Pairwise fun a b=>f a≠f b:=h.imp fun {a c} hac he=>by
 rw [he,tj] at hac;omega
theorem TI.nodup {n:Nat} {D:List Ev} {t:TB} (h:TI n D t):(oS t.rs).Nodup:=by
 have hrs:=h.rs;have one:∀ {p q:Pl} {x y:Hd},x∈atP p t.rs→y∈atP q t.rs→x.d=y.d→p=q:=fun hx hy he=>(h.one hx hy he).1
 rw [List.nodup_iff_pairwise_ne];refine List.pairwise_flatMap.2 ⟨fun r hr=> ?_,(Xu hrs.rs).imp_of_mem fun {r r'} hr hr' hne=> ?_⟩
 ·have hok:=hrs.ok r hr;refine arn.2 ⟨List.pairwise_flatMap.2 ⟨fun g hg=>xB (hok.th g hg).2,(Xu hok.ts).imp_of_mem fun {g g'} hg hg' hne=> ?_⟩,xB hok.ms,fun d hd d' hd' he=> ?_⟩
  ·intro d hd d' hd' he;obtain ⟨x,hx,rfl⟩:=ap8.1 hd;obtain ⟨y,hy,rfl⟩:=ap8.1 hd';rw [← gQ hrs hr hg] at hx;rw [← gQ hrs hr hg'] at hy;have:=one hx hy he;exact hne (arw (ap2 Pl.tag this))
  ·obtain ⟨g,hg,hd⟩:=as3.1 hd;obtain ⟨x,hx,rfl⟩:=ap8.1 hd;obtain ⟨y,hy,rfl⟩:=ap8.1 hd';rw [← gQ hrs hr hg] at hx;rw [← yX hrs hr] at hy;have:=ap2 Pl.tag (one hx hy he);cases this
 ·intro d hd d' hd' he;have key:∀ {r:RP} {d:Int × Int},r∈t.rs→d∈Ii r→∃ p,∃ x∈atP p t.rs,x.d=d∧p.repo=r.nm:=fun {r d} hr hd=>by
   rcases ap6.1 hd with hd | hd
   ·obtain ⟨g,hg,hd⟩:=as3.1 hd;obtain ⟨x,hx,rfl⟩:=ap8.1 hd;exact ⟨_,x,by rw [gQ hrs hr hg];exact hx,rfl,rfl⟩
   ·obtain ⟨x,hx,rfl⟩:=ap8.1 hd;exact ⟨_,x,by rw [yX hrs hr];exact hx,rfl,rfl⟩
  obtain ⟨p,x,hx,h1,h2⟩:=key hr hd;obtain ⟨q,y,hy,h3,h4⟩:=key hr' hd';have:=one hx hy (by rw [h1,h3,he]);subst this;exact hne (h2.symm.trans h4)
theorem TI.tok {n:Nat} {D:List Ev} {t:TB} (h:TI n D t) (h1:1≤n) (h2:n≤16) (hD:∀ e∈D,jk (dz e.repo)=(0,0)∧(e.kind=3→cB (dz e.tag)=(0,0))):Tok t:=by
 have hrs:=h.rs;refine ⟨by rw [h.vl];exact h1,by rw [h.vl];exact h2,h.vo,fun r hr=> ?_,hrs,h.nodup,fun d hd=> ?_⟩
 ·have hok:=hrs.ok r hr;have tg:∀ g∈r.ts,jk (dz r.nm)=(0,0)∧cB (dz g.nm)=(0,0):=fun g hg=>by
   obtain ⟨x,hx⟩:=as5 _ (hok.th g hg).1;rw [← gQ hrs hr hg] at hx;obtain ⟨e,he,ha,_⟩:=(h.at_ _ _).1 hx;rcases ha with ⟨_,hp⟩ | ⟨hk,hp⟩
   ·cases ap2 Pl.tag hp
   ·have e1:r.nm=e.repo:=ap2 Pl.repo hp;have e2:g.nm=e.tag:=arw (ap2 Pl.tag hp);rw [e1,e2];exact ⟨(hD e he).1,(hD e he).2 hk⟩
  refine ⟨?_,fun g hg=>(tg g hg).2⟩;rcases hok.ne with hne | hne
  ·obtain ⟨g,hg⟩:=as5 _ hne;exact (tg g hg).1
  ·obtain ⟨x,hx⟩:=as5 _ hne;rw [← yX hrs hr] at hx;obtain ⟨e,he,ha,_⟩:=(h.at_ _ _).1 hx;rcases ha with ⟨_,hp⟩ | ⟨hk,hp⟩
   ·rw [show r.nm=e.repo from ap2 Pl.repo hp];exact (hD e he).1
   ·cases ap2 Pl.tag hp
 ·obtain ⟨p,x,hx,rfl⟩:=K8 hrs hd;exact h.dots hx

structure RPw (r:RP):Prop where
 ts:r.ts.Pairwise fun a b=>cbN a.nm b.nm<0
 th:∀ g∈r.ts,t8 g.hs
 ms:t8 r.ms
structure RSw (l:List RP):Prop where
 rs:l.Pairwise fun a b=>cbN a.nm b.nm<0
 ok:∀ r∈l,RPw r
theorem zk.w {l:List RP} (h:zk l):RSw l:=⟨h.rs,fun r hr=>⟨(h.ok r hr).ts,fun g hg=>((h.ok r hr).th g hg).2,(h.ok r hr).ms⟩⟩
def fM (l:List TG):List TG:=l.filter fun g=> !decide (g.hs.length=0)
def tO (l:List RP):List RP:=(l.map fun r=>(⟨r.nm,fM r.ts,r.ms⟩:RP)).filter fun r=> !decide (r.ts.length+r.ms.length=0)
theorem bE {s:ByteArray} {g:TG} {B:List TG}:∀ {A:List TG},(∀ x∈A,x.nm≠g.nm)→nk s (A++g::B)=if g.nm=s then g.hs else nk s (A++B)
 | [], _ => rfl
 | x :: A, h => by
  have ih:=bE (s:=s) (g:=g) (B:=B) (A:=A) fun y hy=>h y (aqj _ hy)
  have hx:=h x aqe;rw [aq2,nk,ih,aq2,nk];by_cases h1:x.nm=s
  ·rw [if_pos h1,if_pos h1,if_neg fun h2=>hx (h1.trans h2.symm)]
  ·rw [if_neg h1,if_neg h1]
theorem vg {p:Pl} {r:RP} {B:List RP}:∀ {A:List RP},(∀ x∈A,x.nm≠r.nm)→atP p (A++r::B)=if r.nm=p.repo then zj p r else atP p (A++B)
 | [], _ => rfl
 | x :: A, h => by
  have ih:=vg (p:=p) (r:=r) (B:=B) (A:=A) fun y hy=>h y (aqj _ hy)
  have hx:=h x aqe;rw [aq2,atP,ih,aq2,atP];by_cases h1:x.nm=p.repo
  ·rw [if_pos h1,if_pos h1,if_neg fun h2=>hx (h1.trans h2.symm)]
  ·rw [if_neg h1,if_neg h1]
theorem bF {α:Type} {f:α→ByteArray} {A B:List α} {r:α} (h:(A++r::B).Pairwise fun a b=>cbN (f a) (f b)<0):(∀ x∈A,f x≠f r)∧∀ x∈A++B,f x≠f r:=by
 obtain ⟨_,h2,h3⟩:=arn.1 h;have k1:∀ x∈A,f x≠f r:=fun x hx he=>by
  have:=h3 x hx r aqe;rw [he,tj] at this;omega
 refine ⟨k1,fun x hx=> ?_⟩;rcases ap6.1 hx with hx | hx
 ·exact k1 x hx
 ·intro he;have:=(aq1.1 h2).1 x hx;rw [he,tj] at this;omega
theorem yY {α:Type} {f:α→ByteArray} {A B:List α} {r r':α} (h:(A++r::B).Pairwise fun a b=>cbN (f a) (f b)<0) (he:f r'=f r):(A++r'::B).Pairwise fun a b=>cbN (f a) (f b)<0:=by
 obtain ⟨h1,h2,h3⟩:=arn.1 h;obtain ⟨h4,h5⟩:=aq1.1 h2;refine arn.2 ⟨h1,aq1.2 ⟨fun x hx=>by rw [he];exact h4 x hx,h5⟩,fun a ha c hc=> ?_⟩;rcases ap1.1 hc with rfl | hc
 ·rw [he];exact h3 a ha r aqe
 ·exact h3 a ha c (aqj _ hc)
theorem O4 {α:Type} {f:α→ByteArray} {A B:List α} {r:α} (h:(A++B).Pairwise fun a b=>cbN (f a) (f b)<0) (h1:∀ x∈A,cbN (f x) (f r)<0) (h2:∀ x∈B,cbN (f r) (f x)<0):(A++r::B).Pairwise fun a b=>cbN (f a) (f b)<0:=by
 obtain ⟨k1,k2,k3⟩:=arn.1 h;refine arn.2 ⟨k1,aq1.2 ⟨h2,k2⟩,fun a ha c hc=> ?_⟩;rcases ap1.1 hc with rfl | hc
 ·exact h1 a ha
 ·exact k3 a ha c hc
theorem O5 {A B:List RP} {s:ByteArray} (h:RSw (A++B)) (h1:∀ x∈A,cbN x.nm s<0) (h2:∀ x∈B,cbN s x.nm<0):RSw (A++⟨s,[],[]⟩::B)∧∀ p,atP p (A++⟨s,[],[]⟩::B)=atP p (A++B):=by
 have hp:=O4 (f:=RP.nm) (r:=(⟨s,[],[]⟩:RP)) h.rs h1 h2;refine ⟨⟨hp,fun r hr=> ?_⟩,fun p=> ?_⟩
 ·rcases ap6.1 hr with hr | hr
  ·exact h.ok r (aqu _ hr)
  ·rcases ap1.1 hr with rfl | hr
   ·exact ⟨List.Pairwise.nil,fun g hg=>(by cases hg),List.Pairwise.nil⟩
   ·exact h.ok r (aq3 _ hr)
 ·obtain ⟨k1,k2⟩:=bF (f:=RP.nm) hp;rw [vg k1]
  split
  ·rename_i he
   rw [lN fun x hx hxp=>k2 x hx (hxp.trans he.symm)];unfold zj;cases p.tag <;> rfl
  ·rfl
theorem Xv {A B:List RP} {r:RP} {m:List Hd} (h:RSw (A++r::B)) (hm:t8 m):RSw (A++⟨r.nm,r.ts,m⟩::B)∧∀ p,atP p (A++⟨r.nm,r.ts,m⟩::B)=if p=⟨r.nm,none⟩ then m else atP p (A++r::B):=by
 have hp:=yY (f:=RP.nm) (r':=(⟨r.nm,r.ts,m⟩:RP)) h.rs Z;have hr:=h.ok r (by simp);refine ⟨⟨hp,fun x hx=> ?_⟩,fun p=> ?_⟩
 ·rcases ap6.1 hx with hx | hx
  ·exact h.ok x (aqu _ hx)
  ·rcases ap1.1 hx with rfl | hx
   ·exact ⟨hr.ts,hr.th,hm⟩
   ·exact h.ok x (aq3 _ (aqj _ hx))
 ·rw [vg (bF (f:=RP.nm) hp).1,vg (bF (f:=RP.nm) h.rs).1];obtain ⟨pr,pt⟩:=p;dsimp only;by_cases he:r.nm=pr
  ·subst he;rw [if_pos rfl,if_pos rfl];cases pt with
   | none => rw [if_pos rfl]; rfl
   | some t => rw [if_neg (fun hc => by cases ap2 Pl.tag hc)]; rfl
  ·rw [if_neg he,if_neg he,if_neg fun hc=>he (ap2 Pl.repo hc).symm]
theorem Xw {A B:List RP} {r:RP} {ts:List TG} (h:RSw (A++r::B)) (h1:ts.Pairwise fun a b=>cbN a.nm b.nm<0) (h2:∀ g∈ts,t8 g.hs):RSw (A++⟨r.nm,ts,r.ms⟩::B)∧∀ p,atP p (A++⟨r.nm,ts,r.ms⟩::B)=match p.tag with
  | some t => if r.nm = p.repo then nk t ts else atP p (A ++ r :: B)
  | none => atP p (A ++ r :: B) := by
 have hp:=yY (f:=RP.nm) (r':=(⟨r.nm,ts,r.ms⟩:RP)) h.rs Z;have hr:=h.ok r (by simp);refine ⟨⟨hp,fun x hx=> ?_⟩,fun p=> ?_⟩
 ·rcases ap6.1 hx with hx | hx
  ·exact h.ok x (aqu _ hx)
  ·rcases ap1.1 hx with rfl | hx
   ·exact ⟨h1,h2,hr.ms⟩
   ·exact h.ok x (aq3 _ (aqj _ hx))
 ·rw [vg (bF (f:=RP.nm) hp).1,vg (bF (f:=RP.nm) h.rs).1];obtain ⟨pr,pt⟩:=p;dsimp only;cases pt with
  | none =>
   dsimp only;by_cases he:r.nm=pr
   ·rw [if_pos he,if_pos he];rfl
   ·rw [if_neg he,if_neg he]
  | some t =>
   dsimp only;by_cases he:r.nm=pr
   ·rw [if_pos he,if_pos he];rfl
   ·rw [if_neg he,if_neg he,if_neg he]
theorem Ua {A B:List RP} {r:RP} {A2 B2:List TG} {s:ByteArray} (h:RSw (A++r::B)) (hr:r.ts=A2++B2) (h1:∀ x∈A2,cbN x.nm s<0) (h2:∀ x∈B2,cbN s x.nm<0):RSw (A++⟨r.nm,A2++⟨s,[]⟩::B2,r.ms⟩::B)∧∀ p,atP p (A++⟨r.nm,A2++⟨s,[]⟩::B2,r.ms⟩::B)=atP p (A++r::B):=by
 have hk:=h.ok r (by simp);have hts:=hk.ts;rw [hr] at hts;have hp:=O4 (f:=TG.nm) (r:=(⟨s,[]⟩:TG)) hts h1 h2;obtain ⟨k1,k2⟩:=Xw h hp (fun g hg=>by
  rcases ap6.1 hg with hg | hg
  ·exact hk.th g (by rw [hr];exact aqu _ hg)
  ·rcases ap1.1 hg with rfl | hg
   ·exact List.Pairwise.nil
   ·exact hk.th g (by rw [hr];exact aq3 _ hg))
 refine ⟨k1,fun p=> ?_⟩;rw [k2];obtain ⟨pr,pt⟩:=p;cases pt with
 | none => rfl
 | some t =>
  dsimp only
  split
  ·rename_i he
   rw [vg (bF (f:=RP.nm) h.rs).1,if_pos he];show _=nk t r.ts;obtain ⟨q1,q2⟩:=bF (f:=TG.nm) hp;rw [bE q1,hr]
   split
   ·rename_i hst
    rw [cC fun x hx hxt=>q2 x hx (hxt.trans hst.symm)]
   ·rfl
  ·rfl
theorem alx {A B:List RP} {r:RP} {A2 B2:List TG} {g:TG} {m:List Hd} (h:RSw (A++r::B)) (hr:r.ts=A2++g::B2) (hm:t8 m):RSw (A++⟨r.nm,A2++⟨g.nm,m⟩::B2,r.ms⟩::B)∧∀ p,atP p (A++⟨r.nm,A2++⟨g.nm,m⟩::B2,r.ms⟩::B)=if p=⟨r.nm,some g.nm⟩ then m else atP p (A++r::B):=by
 have hk:=h.ok r (by simp);have hts:=hk.ts;rw [hr] at hts;have hp:=yY (f:=TG.nm) (r':=(⟨g.nm,m⟩:TG)) hts Z;obtain ⟨k1,k2⟩:=Xw h hp (fun x hx=>by
  rcases ap6.1 hx with hx | hx
  ·exact hk.th x (by rw [hr];exact aqu _ hx)
  ·rcases ap1.1 hx with rfl | hx
   ·exact hm
   ·exact hk.th x (by rw [hr];exact aq3 _ (aqj _ hx)))
 refine ⟨k1,fun p=> ?_⟩;rw [k2];obtain ⟨pr,pt⟩:=p;cases pt with
 | none => dsimp only; rw [if_neg fun hc => by cases ap2 Pl.tag hc]
 | some t =>
  dsimp only;by_cases he:r.nm=pr
  ·subst he;rw [if_pos rfl,vg (bF (f:=RP.nm) h.rs).1,if_pos rfl];show _=if _ then _ else nk t r.ts
   rw [bE (bF (f:=TG.nm) hp).1,hr,bE (bF (f:=TG.nm) hts).1];dsimp only;by_cases h1:g.nm=t
   ·subst h1;rw [if_pos rfl,if_pos rfl]
   ·rw [if_neg h1,if_neg h1,if_neg fun hc=>h1 (arw (ap2 Pl.tag hc)).symm]
  ·rw [if_neg he,if_neg fun hc=>he (ap2 Pl.repo hc).symm]
theorem tP (s:ByteArray):∀ {l:List TG},(l.Pairwise fun a b=>cbN a.nm b.nm<0)→nk s (fM l)=nk s l
 | [], _ => rfl
 | g :: l, h => by
  rw [aq1] at h;have ih:=tP s h.2;unfold fM at ih ⊢;rw [ard];by_cases h1:g.hs.length=0
  ·rw [if_neg (by simp [ark.1 h1]),ih,nk]
   split
   ·rename_i he
    rw [cC fun x hx hxs=>by have:=h.1 x hx;rw [hxs,← he,tj] at this;omega,ark.1 h1]
   ·rfl
  ·rw [if_pos (by simpa using h1),nk,nk,ih]
theorem Ij {p:Pl}:∀ {l:List RP},RSw l→atP p (tO l)=atP p l
 | [], _ => rfl
 | r :: l, h => by
  have h1:=aq1.1 h.rs;have hk:=h.ok r aqe;have ih:=Ij (p:=p) (l:=l) ⟨h1.2,fun x hx=>h.ok x (aqj _ hx)⟩;have hra:zj p ⟨r.nm,fM r.ts,r.ms⟩=zj p r:=by
   unfold zj;cases p.tag with
   | none => rfl
   | some s => exact tP s hk.ts
  unfold tO at ih ⊢;rw [aqt,ard];by_cases h2:(fM r.ts).length+r.ms.length=0
  ·rw [if_neg (by rw [ap5 h2];decide),ih,atP]
   split
   ·rename_i he
    rw [lN fun x hx hxs=>by have:=h1.1 x hx;rw [hxs,← he,tj] at this;omega,← hra];unfold zj;cases p.tag with
    | none => exact (ark.1 (by dsimp only; omega)).symm
    | some s =>
     dsimp only;rw [ark.1 (show (fM r.ts).length=0 by omega)];rfl
   ·rfl
  ·rw [if_pos (by rw [aqo h2];rfl),atP,atP,ih,hra]
theorem Ub {l:List RP} (h:RSw l):zk (tO l):=by
 have hf:∀ x∈tO l,∃ r∈l,x=⟨r.nm,fM r.ts,r.ms⟩∧¬ (x.ts.length+x.ms.length=0):=fun x hx=>by
  obtain ⟨h1,h2⟩:=aqv.1 hx;obtain ⟨r,hr,rfl⟩:=ap8.1 h1;exact ⟨r,hr,rfl,fun hc=>by rw [ap5 hc] at h2;cases h2⟩
 refine ⟨ary _ (List.pairwise_map.2 (h.rs.imp fun hab=>hab)),fun x hx=> ?_⟩;obtain ⟨r,hr,rfl,hne⟩:=hf x hx;have hk:=h.ok r hr;refine ⟨ary _ hk.ts,fun g hg=> ?_,hk.ms,?_⟩
 ·obtain ⟨h1,h2⟩:=aqv.1 hg;exact ⟨fun hc=>by rw [hc] at h2;simp at h2,hk.th g h1⟩
 ·by_cases h1:fM r.ts = []
  ·refine .inr fun h2=>hne ?_
   dsimp only at h2 ⊢;rw [h1,h2];rfl
  ·exact .inl h1

structure Tg where
 nm:ByteArray
 hv:Value
 hs:List Hd
structure Rp where
 nm:ByteArray
 tv:Value
 ts:List Tg
 mv:Value
 ms:List Hd
structure Tb where
 vv:Value
 V:List Int
 rv:Value
 rs:List Rp
def Tg.pl (g:Tg):TG:=⟨g.nm,g.hs⟩
def Rp.pl (r:Rp):RP:=⟨r.nm,r.ts.map Tg.pl,r.ms⟩
def Tb.pl (t:Tb):TB:=⟨t.V,t.rs.map Rp.pl⟩
def hdC (h:Hd):List Value:=ii h.d.1::ii h.d.2::u8s h.id
def hdV (h:Hd):Value:= .agg ⟨hdC h⟩
abbrev tgC (g:Tg):List Value:= [.string g.nm,g.hv]
abbrev rpC (r:Rp):List Value:= [.string r.nm,r.tv,r.mv]
abbrev tbC (t:Tb):List Value:= [t.vv,t.rv]
abbrev tbV (t:Tb):Value:= .agg ⟨tbC t⟩
abbrev zm:List Hd→List Value:=flC hdC
abbrev fN:List Tg→List Value:=flC tgC
abbrev q8:List Rp→List Value:=flC rpC
structure dJ (h:Hd):Prop where
 d:lG h.d
 id:idOk h.id
theorem mq {h:Hd} (hi:h.id.length=32):(hdC h).length=34:=by simp [hdC,hi]
theorem tm (h:Hd):∀ u∈hdC h,u.oneCell'=true:=fun u hu=>by
 rcases ap1.1 hu with rfl | hu
 ·rfl
 ·rcases ap1.1 hu with rfl | hu
  ·rfl
  ·exact ec _ u hu
abbrev rHs (v:Value) (l:List Hd):SP:=row t_api_Held 34 v l.length (zm l)
abbrev rTs (v:Value) (l:List Tg):SP:=row dw 2 v l.length (fN l)
abbrev rRs (v:Value) (l:List Rp):SP:=row bm 3 v l.length (q8 l)
def tgF:List Tg→List SP
 | [] => []
 | g :: l => rHs g.hv g.hs :: tgF l
abbrev rpP (r:Rp):List SP:= [rTs r.tv r.ts,rHs r.mv r.ms,all (tgF r.ts)]
def rpF:List Rp→List SP
 | [] => []
 | r :: l => all (rpP r) :: rpF l
abbrev tbP (t:Tb):List SP:= [rZ t.vv t.V,rRs t.rv t.rs,all (rpF t.rs)]
structure RR (w:World) (r:Rp):Prop where
 t:SL w 2 r.tv r.ts.length (fN r.ts)
 m:SL w 34 r.mv r.ms.length (zm r.ms)
 g:∀ g∈r.ts,SL w 34 g.hv g.hs.length (zm g.hs)
structure TR (w:World) (t:Tb):Prop where
 v:VL (Value.int .i64) w t.vv t.V
 r:SL w 3 t.rv t.rs.length (q8 t.rs)
 rr:∀ r∈t.rs,RR w r
structure RW (r:Rp):Prop where
 tn:r.ts.length≤1000
 mn:r.ms.length≤1000
 gn:∀ g∈r.ts,g.hs.length≤1000
 mh:∀ h∈r.ms,dJ h
 gh:∀ g∈r.ts,∀ h∈g.hs,dJ h
 ns:r.nm.size≤1000
 gs:∀ g∈r.ts,g.nm.size≤1000
structure TW (t:Tb):Prop where
 vn:t.V.length≤16
 rn:t.rs.length≤1000
 rw:∀ r∈t.rs,RW r
theorem cE (a c:List Tg):tgF (a++c)=tgF a++tgF c:=by
 induction a with
 | nil => rfl
 | cons x a ih => simp only [aq2, tgF, ih]
theorem cF (a c:List Rp):rpF (a++c)=rpF a++rpF c:=by
 induction a with
 | nil => rfl
 | cons x a ih => simp only [aq2, rpF, ih]
section
variable {b:World} {F:List SP}
theorem Gh {l:List Tg} {k:Nat} (hk:nth F k=some (all (tgF l))) {g:Tg} (hg:g∈l):∀ w,Sat b F w→SL w 34 g.hv g.hs.length (zm g.hs):=fun w hS=>by
 obtain ⟨l1,l2,rfl⟩:=atf hg;obtain ⟨h1,hl,hA⟩:=hS.mem.get hk;have hp:(tgF (l1++g::l2)).Perm (rHs g.hv g.hs::tgF (l1++l2)):=by
  rw [cE,tgF,cE];exact aqz
 have h2:Sat b (rHs g.hv g.hs::tgF (l1++l2)) w:=⟨hS.os,hS.tape,hS.output,(kh hp _ hA).mono hl⟩;exact (h2.oat (k:=0) Z).sl
theorem Gi {l:List Rp} {k:Nat} (hk:nth F k=some (all (rpF l))) {r:Rp} (hr:r∈l):∀ w,Sat b F w→RR w r:=fun w hS=>by
 obtain ⟨l1,l2,rfl⟩:=atf hr;obtain ⟨h1,hl,hA⟩:=hS.mem.get hk;have hp:(rpF (l1++r::l2)).Perm (all (rpP r)::rpF (l1++l2)):=by
  rw [cF,rpF,cF];exact aqz
 have h2:Sat b (rpP r++rpF (l1++l2)) w:=⟨hS.os,hS.tape,hS.output,((kh hp).trans k9 _ hA).mono hl⟩;exact ⟨(h2.oat (k:=0) Z).sl,(h2.oat (k:=1) Z).sl,fun g hg=>Gh (k:=2) Z hg w h2⟩
theorem tQ {t:Tb} {i j k:Nat} (hi:nth F i=some (rZ t.vv t.V)) (hj:nth F j=some (rRs t.rv t.rs)) (hk:nth F k=some (all (rpF t.rs))):∀ w,Sat b F w→TR w t:=fun w H=>⟨vlZ hi w H,(H.oat hj).sl,fun _ hr=>Gi hk hr w H⟩
theorem gS {t:Tb} {k:Nat} (hk:nth F k=some (all (tbP t))):∀ w,Sat b F w→TR w t:=fun w H=>by
 obtain ⟨h1,hl,hA⟩:=H.mem.get hk;have h2:Sat b (tbP t) w:=⟨H.os,H.tape,H.output,kC.mono hA hl⟩;exact tQ (i:=0) (j:=1) (k:=2) Z Z Z w h2
end
theorem O6 {P : Program} {w : World} {f : FuncId} {fn : Func} (hf : P.funcs[f]? = some fn) (hname : (fn.name == "runtime.NumGoroutine") = false) (hb : fn.body.isNone = true) (hn : Extern.findNext fn = none) (he : Extern.find fn = some Extern.BytealgCompare.compare) (a c : ByteArray) :
  (callFunc f #[.string a,.string c]).run P w = .ok (.value (ii (cbN a c))) w:=by
 rw [run_callFunc_extern hf hname hb hn he];have hs:∀ s,(Extern.Bytes.bytesOf (.string s)).run P w = .ok s w:=fun _=>rfl
 change Result.andThen (Sem.run P (do pure (goInt (Extern.BytealgCompare.cmp (← Extern.Bytes.bytesOf (.string a)) (← Extern.Bytes.bytesOf (.string c))))) w) _=_;simp only [Sem.run_bind,hs,Result.andThen,Sem.run_pure];rw [Lib.cmp_eq]
 rfl
section
variable {b:World} {F:List SP}
theorem pP {a c:ByteArray}:SC Tryz.prog tc [.string a,.string c] b F (fun v F'=>v=ii (cbN a c)∧F'=F):=by
 refine ao Tryz.func269 Z Z Z <| anf <| ae Z <| aby <| apn Z Z ?_;refine mG Z Z Z (fun w H=>O6 Tryz.func308 (by kernel_rfl) (by kernel_rfl) (by kernel_rfl) (by kernel_rfl) a c) ?_;refine ae Z <| ane <| aj <| bh Z Z av ?_;exact ⟨rfl,rfl⟩
theorem cG {a c:ByteArray}:SC Tryz.prog kU [.string a,.string c] b F (fun v F'=>v=ii (cbN a c)∧F'=F):=by
 refine ao Tryz.func217 Z Z Z <| anf <| ae Z <| aby <| apn Z Z <| au Z Z Z (pP) <| ae Z <| ane <| aj <| bh Z Z av ?_;exact ⟨rfl,rfl⟩
theorem aly {g:Nat} {x y:Int}:SC Tryz.prog yK [.slice (some ⟨g,0,none⟩) 2 2] b (pt g fp [ii x,ii y]::F) (fun v F'=>v=ii (if x=0 then y else x)∧F'=pt g fp [ii x,ii y]::F):=by
 refine ao Tryz.func270 Z Z Z <| anf <| ae Z <| aby <| ae Z <| ane <| ac <| anf <| apo Z Z Z <| ane <| ak <| d6 (S:=Nat) (fun i=> [(3,ii 0),(6,.slice (some ⟨g,0,none⟩) 2 2),(7,ii 2),(8,ii i)]) (fun _=>pt g fp [ii x,ii y]::F) (fun i=>i=0∨(i=1∧x=0)∨(i=2∧x=0∧y=0)) (fun i=>2 - i) 0 av Zl ?_;rintro i (rfl | ⟨rfl,rfl⟩ | ⟨rfl,rfl,rfl⟩)
 ·refine anf <| ae Z <| ane <| ac <| ar Z <| ah <| ab <| ac <| ak <| anf <| ay Z <| ba 0 Z Z Z <| ae Z <| aby <| apo Z Z Z <| ane ?_;refine jC Z (fun h=> ?_) (fun h=> ?_)
  ·refine anf <| apn Z Z <| ane <| aj <| az <| al <| du <| az <| al <| bh Z Z av ?_;rw [if_neg h];exact ⟨rfl,rfl⟩
  ·refine ah <| bg <| ab <| aa <| ay Z <| ae Z <| ad ?_;refine i9 1 av (.inr (.inl ⟨rfl,h⟩)) (by decide)
 ·refine anf <| ae Z <| ane <| ac <| ar Z <| ah <| ab <| ac <| ak <| anf <| ay Z <| ba 0 Z Z Z <| ae Z <| aby <| apo Z Z Z <| ane ?_;refine jC Z (fun h=> ?_) (fun h=> ?_)
  ·refine anf <| apn Z Z <| ane <| aj <| az <| al <| du <| az <| al <| bh Z Z av ?_;exact ⟨rfl,rfl⟩
  ·refine ah <| bg <| ab <| aa <| ay Z <| ae Z <| ad ?_;refine i9 2 av (.inr (.inr ⟨rfl,rfl,h⟩)) (by decide)
 ·refine anf <| ae Z <| ane <| ac <| ai Z <| b8 <| aw <| ax <| aq <| ab <| anf <| apn Z Z <| ane <| aj <| bh Z Z av ?_;exact ⟨rfl,rfl⟩
end
def ahD (a c:Int × Int):Int:=if yN a.1 c.1=0 then yN a.2 c.2 else yN a.1 c.1
theorem tU {a c:Int × Int}:ahD a c<0↔ltD a c:=by
 unfold ahD yN ltD
 repeat' split
 all_goals constructor <;> omega
section
variable {b:World} {F:List SP}
theorem tV {x y:Int}:SC Tryz.prog s9 [ii x,ii y] b F (fun v F'=>v=ii (yN x y)∧F'=F):=SC.ofEq fun w _=>yO x y w
theorem Ik {x y:Hd} (hx:x.id.length=32) (hy:y.id.length=32):SC Tryz.prog zg [hdV x,hdV y] b F (fun v F'=>v=ii (ahD x.d y.d)∧F'=F):=by
 refine ao Tryz.func225 Z Z Z <| anf <| br Z Z Z Z Z fun g2=>br Z Z Z Z Z fun g3=>ae Z <| ane <| ac <| cq flo (pt g3 t_api_Held (hdC y)::pt g2 t_api_Held (hdC x)::F) (by decide +kernel) av <| bj Z Zl <| bj Z Zl <| cd 1 Z Z Z Z <| bj Z Zl <| bj Z Zl <| cd 0 Z Z Z Z <| fe Z Z Z Z (tV) av <| bj Z Zl <| bj Z Zl <| cd 1 Z Z Z Z <| bj Z Zl <| bj Z Zl <| cd 0 Z Z Z Z <| fe Z Z Z Z (tV) av ?_
 skip
 refine xT [_,_] Z Z Z Z Z Z Z Z Z Z (af 2 [0,1] Z) fun g4=>fe Z Z Z Z (aly) ((af 3 [1,2] Z)) <| bj Z Zl <| ap <| ab <| aj <| bh Z Z (af 3 [] Z) ?_
 exact ⟨rfl,rfl⟩
end

section
variable {b:World} {F:List SP} {p:Tg→Bool} {f:Nat} [Bodied Tryz.prog f] {pre post:List Value} {D:List Tg} {va:Value}
 (hc:∀ d∈D,∀ B:List SP,SC Tryz.prog f (pre++([.agg ⟨tgC d⟩]++post)) b (B++F) (fun u F'=>u = .bool (p d)∧F'=B++F)) (hz:∀ d∈D,(tgC d).length=2)
include hc hz
theorem Xx (ha:∀ w,Sat b F w→SL w 2 va D.length (flC tgC D)) (hn:D.length≤100000) :
  SC Tryz.prog mb [va,.func (.func f) ⟨pre⟩ ⟨post⟩] b F (fun u F'=>(∃ P T,D=P++T∧(∀ e∈P,p e=false)∧(∀ t T',T=t::T'→p t=true)∧u=ii (if T = [] then -1 else (P.length:Int)))∧F'=F):=by
 refine ao Tryz.func215 Z Z Z <| bu (fun w H=>ci (ha w H)) ?_;rintro ⟨A,c,rfl,_,_,_,h4,_⟩;refine anf <| ae Z <| ane <| ac <| anf <| apo Z Z Z <| ane <| ak ?_;refine d6 (S:=Nat) (fun i=> [(0,.slice A D.length c),(1,.func (.func f) ⟨pre⟩ ⟨post⟩),(7,ii D.length),(8,ii i)]) (fun _=>F) (fun i=>i≤D.length∧∀ e∈D.take i,p e=false) (fun i=>D.length - i) 0 av ⟨aqc _,fun e he=>by simp at he⟩ ?_;rintro i ⟨hi,hP⟩;refine anf <| ae Z <| ane <| ac ?_;refine cj Z (fun h1=> ?_) (fun h1=> ?_)
 ·have h1':i<D.length:=by omega
  obtain ⟨gg,oo,rfl⟩:=h4 (by omega);have ca:∀ w,Sat b F w→∀ j,j<2→w.cell? ⟨gg,oo+i*2+j,none⟩=(tgC D[i])[j]?:=fun w H j hj=>ej (ha w H) hz h1' hj
  have hcy:=hc _ (apw h1');have hyl:=hz _ (apw h1');have hsn:D.take (i+1)=D.take i ++ [D[i]]:=apz h1';have hdr:D.drop i=D[i]::D.drop (i+1):=aqq h1';generalize hy:D[i]=y at *;generalize tgC y=cs at *;refine ah <| ab <| ac <| ak <| anf <| apn Z Z <| aby <| apo Z Z Z <| ay Z ?_;refine fc Z (fun w H=>di (cs:=cs) Z Z Z hyl (fun j hj=>by rw [b5,apu];exact ca w H j (by rw [hyl] at hj;exact hj))) Z ?_;refine au Z Z Z (hcy []) <| ane ?_;refine w9 Z (fun q=> ?_) (fun q=> ?_)
  ·refine anf <| apn Z Z <| ane <| aj <| az <| al <| du <| az <| al <| bh Z Z av ?_;refine ⟨⟨D.take i,D.drop i,(aqs i D).symm,hP,fun t T' h=> ?_,?_⟩,rfl⟩
   ·rw [hdr] at h;cases h;exact q
   ·rw [hdr,if_neg (by simp),ap7,asx hi];rfl
  ·refine ah <| bg <| ab <| aa <| ay Z <| ae Z <| ad <| dj (i+1) av ⟨h1',fun e he=> ?_⟩;rw [hsn] at he;rcases ap6.1 he with he | he
   ·exact hP e he
   ·rw [apy.1 he];exact q
 ·obtain rfl:i=D.length:=by omega
  rw [aqk] at hP;refine b8 <| aw <| ax <| aq <| ab <| anf <| ae Z <| ane <| aj <| bh Z Z av ?_;exact ⟨⟨D,[],by simp,hP,(fun t T' h=>by cases h),rfl⟩,rfl⟩
theorem Xy (ha:∀ w,Sat b F w→SL w 2 va D.length (flC tgC D)) (hn:D.length≤100000) :
  SC Tryz.prog lc [va,.func (.func f) ⟨pre⟩ ⟨post⟩] b F (fun u F'=>u = .bool (D.any p)∧F'=F):=by
 refine ao Tryz.func145 Z Z Z <| anf <| ae Z <| aby <| apn Z Z <| am Z Z Z (Xx hc hz ha hn) ?_;rintro _ _ ⟨⟨P,T,hPT,hP,hT,rfl⟩,rfl⟩;have hfP:P.any p=false:=by rw [atl];intro e he;rw [hP e he];simp
 cases T with
 | nil =>
  rw [if_pos rfl];refine apn Z Z <| ane <| aj <| bh Z Z av ?_;rw [hPT,aqg,hfP];exact ⟨rfl,rfl⟩
 | cons t T =>
  rw [if_neg (by simp)];refine apn Z Z <| ane <| aj <| bh Z Z av ?_;rw [hPT,List.any_append,hfP,List.any_cons,hT t T rfl];exact ⟨ap2 Value.bool (ap5 (by omega)),rfl⟩
theorem alz {A:Option Addr} {c:Nat} (ho:∀ d∈D,∀ u∈tgC d,u.oneCell'=true) (hn:D.length≤100000) :
  SC Tryz.prog lr [.slice A D.length c,.func (.func f) ⟨pre⟩ ⟨post⟩] b (row dw 2 (.slice A D.length c) D.length (flC tgC D)::F) (fun u F'=>u = .slice A (D.filter fun e=> !p e).length c∧F'=row dw 2 (.slice A (D.filter fun e=> !p e).length c) (D.filter fun e=> !p e).length (flC tgC (D.filter fun e=> !p e))::F):=by
 have hc2:∀ (C:List SP),∀ d∈D,∀ B:List SP,SC Tryz.prog f (pre++([.agg ⟨tgC d⟩]++post)) b (B++(C++F)) (fun u F'=>u = .bool (p d)∧F'=B++(C++F)):=fun C d hd B=>by
  have h:=hc d hd (B++C);rw [ap0] at h;exact h
 refine ao Tryz.func158 Z Z Z <| anf <| ae Z <| aby <| apn Z Z <| am Z Z Z (Xx (hc2 [_]) hz (fun w H=>(H.oat (k:=0) Z).sl) hn) ?_;rintro _ _ ⟨⟨P,T,hPT,hP,hT,rfl⟩,rfl⟩;have hfP:P.filter (fun e=> !p e)=P:=aq9.2 fun e he=>by rw [hP e he];rfl
 cases T with
 | nil =>
  rw [if_pos rfl];rw [aqg] at hPT;subst hPT;rw [hfP];refine ae Z <| ane <| ac <| anf <| apn Z Z <| ane <| ar Z <| anf <| apn Z Z <| ane <| aj <| al <| bh Z Z av ?_;exact ⟨rfl,rfl⟩
 | cons t T =>
 rw [if_neg (by simp)];have ht:=hT t T Z;have hl:D.length=P.length+(T.length+1):=by rw [hPT,aps,ap3]
 refine b6 (fun w H=>(H.oat (k:=0) Z).form) ?_;rintro ⟨A',c',hv,hnc,_,q3⟩;cases hv;obtain ⟨gg,oo,rfl⟩:=q3 (by omega);refine ae Z <| ane <| ac <| anf <| apn Z Z <| ane <| ai Z <| ah <| ab <| ac <| anf <| ae Z <| ay Z <| ae Z <| ane <| ak ?_;rw [show (P.length:Int)+1=((P.length+1:Nat):Int) by omega];have hti:D.take (P.length+1)=P ++ [t]:=by
  rw [hPT,atr,aqh (by omega),arp];rfl
 refine d6 (S:=Nat × Nat × List Tg) (fun s=> [(0,.slice (some ⟨gg,oo,none⟩) D.length c),(1,.func (.func f) ⟨pre⟩ ⟨post⟩),(5,ii s.1),(6,ii s.2.1)]) (fun s=>row dw 2 (.slice (some ⟨gg,oo,none⟩) D.length c) D.length (flC tgC s.2.2)::F)
  (fun s=>s.1<s.2.1∧s.2.1≤D.length∧s.2.2.length=D.length∧s.2.2.take s.1=(D.take s.2.1).filter (fun e=> !p e)∧s.2.2.drop s.2.1=D.drop s.2.1∧∀ d∈s.2.2,d∈D) (fun s=>D.length - s.2.1) (P.length,P.length+1,D) av ⟨by dsimp only;omega,by dsimp only;omega,rfl,?_,rfl,fun _ h=>h⟩ ?_
 ·dsimp only;rw [hti,ari,hfP,ard,ht,hPT,aru (by omega),aqk];simp
 rintro ⟨i,j,X⟩ ⟨hij,hj,hX,hXt,hXd,hXm⟩;dsimp only at hij hj hX hXt hXd hXm ⊢;have hXz:∀ d∈X,(tgC d).length=2:=fun d hd=>hz d (hXm d hd)
 refine ac <| anf <| apo Z Z Z <| ae Z <| ane ?_;refine cj Z (fun h1=> ?_) (fun h1=> ?_)
 ·have h1':j<D.length:=by omega
  have hx:X[j]? = some D[j]:=by
   have:=ap2 (·[0]?) hXd;simpa [arc,h1'] using this
  have hsn:D.take (j+1)=D.take j ++ [D[j]]:=apz h1';have fx:((flC tgC X).drop (j*2)).take 2=tgC D[j]:=by
   obtain ⟨hjX,hxe⟩:=ap4.1 hx;rw [← hxe];exact gJ hXz hjX
  have hym:=apw h1';have hcy:=hc _ hym;have hyl:=hz _ hym;have hyo:=ho _ hym;have hw:=gK (f:=tgC) (x:=D[j]) hXz hyl (i:=i) (by omega);have hXd2:X.drop (j+1)=D.drop (j+1):=by
   have:=ap2 List.tail hXd;simpa [List.tail_drop] using this
  generalize hy:D[j]=y at *;have hel:=l9 hXz;rw [hX] at hel;obtain ⟨e1,e2⟩:=k5 (X:=X) (y:=y) hij (by omega);generalize tgC y=cs at *;refine ah <| ab <| ac <| ak <| anf <| apn Z Z <| ay Z ?_;refine kH 0 (j*2) Z Z Z Z Z Z Z (by rw [b5,apu]) (by omega) fx (by rw [hyl];rfl) ?_;refine bq Z Z Z Z Z fun g7=> ?_;refine eh 0 Z Z Z Z Z Z Z hyl hyo (by rw [hyl];rfl) ?_;refine aby <| ae Z ?_;refine b7 0 Z Z Z Z Z Z (cp (by rw [hyl];rfl)) Z ?_;refine au Z Z Z (hcy [pt g7 dw cs,row dw 2 (.slice (some ⟨gg,oo,none⟩) D.length c) D.length (flC tgC X)]) <| ae Z <| ane ?_;refine w9 Z (fun q=> ?_) (fun q=> ?_)
  ·have q':p y=false:=by simpa using q
   refine anf <| apn Z Z ?_;refine b7 0 Z Z Z Z Z Z (cp (by rw [hyl];rfl)) Z ?_;refine ay Z ?_;refine zt 1 (i*2) Z Z Z Z Z Z (by rw [hyl];rfl) Z hw Z (by rw [b5,apu]) (by rw [hel,hyl];omega) hyo ?_;refine ane <| aa <| ae Z <| ay Z <| ae Z <| ad <| bg <| ab <| aa <| ae Z <| ay Z <| ae Z <| ad ?_;rw [show (i:Int)+1=((i+1:Nat):Int) by omega,show (j:Int)+1=((j+1:Nat):Int) by omega];refine dj (i+1,j+1,X.set i y) (af 2 [1] Z) ⟨by dsimp only;omega,h1',by rw [asw];exact hX,?_,?_,fun d hd=> ?_⟩
   ·dsimp only;rw [e1,hXt,hsn,ari,ard,q'];rfl
   ·dsimp only;rw [← hXd2];exact (k5 (X:=X) (y:=y) (j:=j+1) (by omega) (by omega)).2
   ·rcases asc hd with h | h
    ·exact hXm d h
    ·rw [h];exact hym
  ·have q':p y=true:=by simpa using q
   refine ah <| bg <| ab <| aa <| ae Z <| ay Z <| ae Z <| ad ?_;rw [show (j:Int)+1=((j+1:Nat):Int) by omega];refine dj (i,j+1,X) (af 2 [1] Z) ⟨by dsimp only;omega,h1',hX,?_,hXd2,hXm⟩;dsimp only;rw [hXt,hsn,ari,ard,q'];simp
 ·obtain rfl:j=D.length:=by omega
  rw [aqk] at hXt;have hil:i=(D.filter fun e=> !p e).length:=by
   have:=ap2 List.length hXt;rw [ap7] at this;omega
  have e9:=gO hXz i;rw [hXt] at e9;have hi1:((i:Int)).toNat=i:=apu i;refine b8 <| aw <| ax <| aq <| ab <| anf <| apn Z Z <| ay Z ?_;refine bn 38 (.slice (if c=i then some ⟨gg,oo,none⟩ else (some (⟨gg,oo,none⟩:Addr)).map (·.add (i*2))) (D.length - i) (c - i)) Z (by rw [hi1]) ?_;refine yu 0 Z Z Z Z Z Z Z Z Z Z (fun h=>by
   rw [if_neg (by omega)];simp only [aq5,Addr.add,apx]
   split <;> simp_all) (by omega) ?_
  rw [e9];refine aby <| apn Z Z <| ay Z <| ae Z <| ane <| aj <| bh Z Z av ?_;rw [← hil];exact ⟨rfl,rfl⟩
end
section
variable {b:World} {F:List SP} {p:Rp→Bool} {f:Nat} [Bodied Tryz.prog f] {pre post:List Value} {D:List Rp} {va:Value}
 (hc:∀ d∈D,∀ B:List SP,SC Tryz.prog f (pre++([.agg ⟨rpC d⟩]++post)) b (B++F) (fun u F'=>u = .bool (p d)∧F'=B++F)) (hz:∀ d∈D,(rpC d).length=3)
include hc hz
theorem al0 (ha:∀ w,Sat b F w→SL w 3 va D.length (flC rpC D)) (hn:D.length≤100000) :
  SC Tryz.prog iy [va,.func (.func f) ⟨pre⟩ ⟨post⟩] b F (fun u F'=>(∃ P T,D=P++T∧(∀ e∈P,p e=false)∧(∀ t T',T=t::T'→p t=true)∧u=ii (if T = [] then -1 else (P.length:Int)))∧F'=F):=by
 refine ao Tryz.func239 Z Z Z <| bu (fun w H=>ci (ha w H)) ?_;rintro ⟨A,c,rfl,_,_,_,h4,_⟩;refine anf <| ae Z <| ane <| ac <| anf <| apo Z Z Z <| ane <| ak ?_;refine d6 (S:=Nat) (fun i=> [(0,.slice A D.length c),(1,.func (.func f) ⟨pre⟩ ⟨post⟩),(7,ii D.length),(8,ii i)]) (fun _=>F) (fun i=>i≤D.length∧∀ e∈D.take i,p e=false) (fun i=>D.length - i) 0 av ⟨aqc _,fun e he=>by simp at he⟩ ?_;rintro i ⟨hi,hP⟩;refine anf <| ae Z <| ane <| ac ?_;refine cj Z (fun h1=> ?_) (fun h1=> ?_)
 ·have h1':i<D.length:=by omega
  obtain ⟨gg,oo,rfl⟩:=h4 (by omega);have ca:∀ w,Sat b F w→∀ j,j<3→w.cell? ⟨gg,oo+i*3+j,none⟩=(rpC D[i])[j]?:=fun w H j hj=>ej (ha w H) hz h1' hj
  have hcy:=hc _ (apw h1');have hyl:=hz _ (apw h1');have hsn:D.take (i+1)=D.take i ++ [D[i]]:=apz h1';have hdr:D.drop i=D[i]::D.drop (i+1):=aqq h1';generalize hy:D[i]=y at *;generalize rpC y=cs at *;refine ah <| ab <| ac <| ak <| anf <| apn Z Z <| aby <| apo Z Z Z <| ay Z ?_;refine fc Z (fun w H=>di (cs:=cs) Z Z Z hyl (fun j hj=>by rw [b5,apu];exact ca w H j (by rw [hyl] at hj;exact hj))) Z ?_;refine au Z Z Z (hcy []) <| ane ?_;refine w9 Z (fun q=> ?_) (fun q=> ?_)
  ·refine anf <| apn Z Z <| ane <| aj <| az <| al <| du <| az <| al <| bh Z Z av ?_;refine ⟨⟨D.take i,D.drop i,(aqs i D).symm,hP,fun t T' h=> ?_,?_⟩,rfl⟩
   ·rw [hdr] at h;cases h;exact q
   ·rw [hdr,if_neg (by simp),ap7,asx hi];rfl
  ·refine ah <| bg <| ab <| aa <| ay Z <| ae Z <| ad <| dj (i+1) av ⟨h1',fun e he=> ?_⟩;rw [hsn] at he;rcases ap6.1 he with he | he
   ·exact hP e he
   ·rw [apy.1 he];exact q
 ·obtain rfl:i=D.length:=by omega
  rw [aqk] at hP;refine b8 <| aw <| ax <| aq <| ab <| anf <| ae Z <| ane <| aj <| bh Z Z av ?_;exact ⟨⟨D,[],by simp,hP,(fun t T' h=>by cases h),rfl⟩,rfl⟩
theorem al1 {A:Option Addr} {c:Nat} (ho:∀ d∈D,∀ u∈rpC d,u.oneCell'=true) (hn:D.length≤100000) :
  SC Tryz.prog ld [.slice A D.length c,.func (.func f) ⟨pre⟩ ⟨post⟩] b (row bm 3 (.slice A D.length c) D.length (flC rpC D)::F) (fun u F'=>u = .slice A (D.filter fun e=> !p e).length c∧F'=row bm 3 (.slice A (D.filter fun e=> !p e).length c) (D.filter fun e=> !p e).length (flC rpC (D.filter fun e=> !p e))::F):=by
 have hc2:∀ (C:List SP),∀ d∈D,∀ B:List SP,SC Tryz.prog f (pre++([.agg ⟨rpC d⟩]++post)) b (B++(C++F)) (fun u F'=>u = .bool (p d)∧F'=B++(C++F)):=fun C d hd B=>by
  have h:=hc d hd (B++C);rw [ap0] at h;exact h
 refine ao Tryz.func160 Z Z Z <| anf <| ae Z <| aby <| apn Z Z <| am Z Z Z (al0 (hc2 [_]) hz (fun w H=>(H.oat (k:=0) Z).sl) hn) ?_;rintro _ _ ⟨⟨P,T,hPT,hP,hT,rfl⟩,rfl⟩;have hfP:P.filter (fun e=> !p e)=P:=aq9.2 fun e he=>by rw [hP e he];rfl
 cases T with
 | nil =>
  rw [if_pos rfl];rw [aqg] at hPT;subst hPT;rw [hfP];refine ae Z <| ane <| ac <| anf <| apn Z Z <| ane <| ar Z <| anf <| apn Z Z <| ane <| aj <| al <| bh Z Z av ?_;exact ⟨rfl,rfl⟩
 | cons t T =>
 rw [if_neg (by simp)];have ht:=hT t T Z;have hl:D.length=P.length+(T.length+1):=by rw [hPT,aps,ap3]
 refine b6 (fun w H=>(H.oat (k:=0) Z).form) ?_;rintro ⟨A',c',hv,hnc,_,q3⟩;cases hv;obtain ⟨gg,oo,rfl⟩:=q3 (by omega);refine ae Z <| ane <| ac <| anf <| apn Z Z <| ane <| ai Z <| ah <| ab <| ac <| anf <| ae Z <| ay Z <| ae Z <| ane <| ak ?_;rw [show (P.length:Int)+1=((P.length+1:Nat):Int) by omega];have hti:D.take (P.length+1)=P ++ [t]:=by
  rw [hPT,atr,aqh (by omega),arp];rfl
 refine d6 (S:=Nat × Nat × List Rp) (fun s=> [(0,.slice (some ⟨gg,oo,none⟩) D.length c),(1,.func (.func f) ⟨pre⟩ ⟨post⟩),(5,ii s.1),(6,ii s.2.1)]) (fun s=>row bm 3 (.slice (some ⟨gg,oo,none⟩) D.length c) D.length (flC rpC s.2.2)::F)
  (fun s=>s.1<s.2.1∧s.2.1≤D.length∧s.2.2.length=D.length∧s.2.2.take s.1=(D.take s.2.1).filter (fun e=> !p e)∧s.2.2.drop s.2.1=D.drop s.2.1∧∀ d∈s.2.2,d∈D) (fun s=>D.length - s.2.1) (P.length,P.length+1,D) av ⟨by dsimp only;omega,by dsimp only;omega,rfl,?_,rfl,fun _ h=>h⟩ ?_
 ·dsimp only;rw [hti,ari,hfP,ard,ht,hPT,aru (by omega),aqk];simp
 rintro ⟨i,j,X⟩ ⟨hij,hj,hX,hXt,hXd,hXm⟩;dsimp only at hij hj hX hXt hXd hXm ⊢;have hXz:∀ d∈X,(rpC d).length=3:=fun d hd=>hz d (hXm d hd)
 refine ac <| anf <| apo Z Z Z <| ae Z <| ane ?_;refine cj Z (fun h1=> ?_) (fun h1=> ?_)
 ·have h1':j<D.length:=by omega
  have hx:X[j]? = some D[j]:=by
   have:=ap2 (·[0]?) hXd;simpa [arc,h1'] using this
  have hsn:D.take (j+1)=D.take j ++ [D[j]]:=apz h1';have fx:((flC rpC X).drop (j*3)).take 3=rpC D[j]:=by
   obtain ⟨hjX,hxe⟩:=ap4.1 hx;rw [← hxe];exact gJ hXz hjX
  have hym:=apw h1';have hcy:=hc _ hym;have hyl:=hz _ hym;have hyo:=ho _ hym;have hw:=gK (f:=rpC) (x:=D[j]) hXz hyl (i:=i) (by omega);have hXd2:X.drop (j+1)=D.drop (j+1):=by
   have:=ap2 List.tail hXd;simpa [List.tail_drop] using this
  generalize hy:D[j]=y at *;have hel:=l9 hXz;rw [hX] at hel;obtain ⟨e1,e2⟩:=k5 (X:=X) (y:=y) hij (by omega);generalize rpC y=cs at *;refine ah <| ab <| ac <| ak <| anf <| apn Z Z <| ay Z ?_;refine kH 0 (j*3) Z Z Z Z Z Z Z (by rw [b5,apu]) (by omega) fx (by rw [hyl];rfl) ?_;refine bq Z Z Z Z Z fun g7=> ?_;refine eh 0 Z Z Z Z Z Z Z hyl hyo (by rw [hyl];rfl) ?_;refine aby <| ae Z ?_;refine b7 0 Z Z Z Z Z Z (cp (by rw [hyl];rfl)) Z ?_;refine au Z Z Z (hcy [pt g7 bm cs,row bm 3 (.slice (some ⟨gg,oo,none⟩) D.length c) D.length (flC rpC X)]) <| ae Z <| ane ?_;refine w9 Z (fun q=> ?_) (fun q=> ?_)
  ·have q':p y=false:=by simpa using q
   refine anf <| apn Z Z ?_;refine b7 0 Z Z Z Z Z Z (cp (by rw [hyl];rfl)) Z ?_;refine ay Z ?_;refine zt 1 (i*3) Z Z Z Z Z Z (by rw [hyl];rfl) Z hw Z (by rw [b5,apu]) (by rw [hel,hyl];omega) hyo ?_;refine ane <| aa <| ae Z <| ay Z <| ae Z <| ad <| bg <| ab <| aa <| ae Z <| ay Z <| ae Z <| ad ?_;rw [show (i:Int)+1=((i+1:Nat):Int) by omega,show (j:Int)+1=((j+1:Nat):Int) by omega];refine dj (i+1,j+1,X.set i y) (af 2 [1] Z) ⟨by dsimp only;omega,h1',by rw [asw];exact hX,?_,?_,fun d hd=> ?_⟩
   ·dsimp only;rw [e1,hXt,hsn,ari,ard,q'];rfl
   ·dsimp only;rw [← hXd2];exact (k5 (X:=X) (y:=y) (j:=j+1) (by omega) (by omega)).2
   ·rcases asc hd with h | h
    ·exact hXm d h
    ·rw [h];exact hym
  ·have q':p y=true:=by simpa using q
   refine ah <| bg <| ab <| aa <| ae Z <| ay Z <| ae Z <| ad ?_;rw [show (j:Int)+1=((j+1:Nat):Int) by omega];refine dj (i,j+1,X) (af 2 [1] Z) ⟨by dsimp only;omega,h1',hX,?_,hXd2,hXm⟩;dsimp only;rw [hXt,hsn,ari,ard,q'];simp
 ·obtain rfl:j=D.length:=by omega
  rw [aqk] at hXt;have hil:i=(D.filter fun e=> !p e).length:=by
   have:=ap2 List.length hXt;rw [ap7] at this;omega
  have e9:=gO hXz i;rw [hXt] at e9;have hi1:((i:Int)).toNat=i:=apu i;refine b8 <| aw <| ax <| aq <| ab <| anf <| apn Z Z <| ay Z ?_;refine bn 38 (.slice (if c=i then some ⟨gg,oo,none⟩ else (some (⟨gg,oo,none⟩:Addr)).map (·.add (i*3))) (D.length - i) (c - i)) Z (by rw [hi1]) ?_;refine yu 0 Z Z Z Z Z Z Z Z Z Z (fun h=>by
   rw [if_neg (by omega)];simp only [aq5,Addr.add,apx]
   split <;> simp_all) (by omega) ?_
  rw [e9];refine aby <| apn Z Z <| ay Z <| ae Z <| ane <| aj <| bh Z Z av ?_;rw [← hil];exact ⟨rfl,rfl⟩
end
section
variable {b:World} {F:List SP} {p:Hd→Bool} {f:Nat} [Bodied Tryz.prog f] {pre post:List Value} {D:List Hd} {va:Value}
 (hc:∀ d∈D,∀ B:List SP,SC Tryz.prog f (pre++([.agg ⟨hdC d⟩]++post)) b (B++F) (fun u F'=>u = .bool (p d)∧F'=B++F)) (hz:∀ d∈D,(hdC d).length=34)
include hc hz
theorem al2 (ha:∀ w,Sat b F w→SL w 34 va D.length (flC hdC D)) (hn:D.length≤100000) :
  SC Tryz.prog ox [va,.func (.func f) ⟨pre⟩ ⟨post⟩] b F (fun u F'=>(∃ P T,D=P++T∧(∀ e∈P,p e=false)∧(∀ t T',T=t::T'→p t=true)∧u=ii (if T = [] then -1 else (P.length:Int)))∧F'=F):=by
 refine ao Tryz.func276 Z Z Z <| bu (fun w H=>ci (ha w H)) ?_;rintro ⟨A,c,rfl,_,_,_,h4,_⟩;refine anf <| ae Z <| ane <| ac <| anf <| apo Z Z Z <| ane <| ak ?_;refine d6 (S:=Nat) (fun i=> [(0,.slice A D.length c),(1,.func (.func f) ⟨pre⟩ ⟨post⟩),(7,ii D.length),(8,ii i)]) (fun _=>F) (fun i=>i≤D.length∧∀ e∈D.take i,p e=false) (fun i=>D.length - i) 0 av ⟨aqc _,fun e he=>by simp at he⟩ ?_;rintro i ⟨hi,hP⟩;refine anf <| ae Z <| ane <| ac ?_;refine cj Z (fun h1=> ?_) (fun h1=> ?_)
 ·have h1':i<D.length:=by omega
  obtain ⟨gg,oo,rfl⟩:=h4 (by omega);have ca:∀ w,Sat b F w→∀ j,j<34→w.cell? ⟨gg,oo+i*34+j,none⟩=(hdC D[i])[j]?:=fun w H j hj=>ej (ha w H) hz h1' hj
  have hcy:=hc _ (apw h1');have hyl:=hz _ (apw h1');have hsn:D.take (i+1)=D.take i ++ [D[i]]:=apz h1';have hdr:D.drop i=D[i]::D.drop (i+1):=aqq h1';generalize hy:D[i]=y at *;generalize hdC y=cs at *;refine ah <| ab <| ac <| ak <| anf <| apn Z Z <| aby <| apo Z Z Z <| ay Z ?_;refine fc Z (fun w H=>di (cs:=cs) Z Z Z hyl (fun j hj=>by rw [b5,apu];exact ca w H j (by rw [hyl] at hj;exact hj))) Z ?_;refine au Z Z Z (hcy []) <| ane ?_;refine w9 Z (fun q=> ?_) (fun q=> ?_)
  ·refine anf <| apn Z Z <| ane <| aj <| az <| al <| du <| az <| al <| bh Z Z av ?_;refine ⟨⟨D.take i,D.drop i,(aqs i D).symm,hP,fun t T' h=> ?_,?_⟩,rfl⟩
   ·rw [hdr] at h;cases h;exact q
   ·rw [hdr,if_neg (by simp),ap7,asx hi];rfl
  ·refine ah <| bg <| ab <| aa <| ay Z <| ae Z <| ad <| dj (i+1) av ⟨h1',fun e he=> ?_⟩;rw [hsn] at he;rcases ap6.1 he with he | he
   ·exact hP e he
   ·rw [apy.1 he];exact q
 ·obtain rfl:i=D.length:=by omega
  rw [aqk] at hP;refine b8 <| aw <| ax <| aq <| ab <| anf <| ae Z <| ane <| aj <| bh Z Z av ?_;exact ⟨⟨D,[],by simp,hP,(fun t T' h=>by cases h),rfl⟩,rfl⟩
theorem al3 {A:Option Addr} {c:Nat} (ho:∀ d∈D,∀ u∈hdC d,u.oneCell'=true) (hn:D.length≤100000) :
  SC Tryz.prog oe [.slice A D.length c,.func (.func f) ⟨pre⟩ ⟨post⟩] b (row t_api_Held 34 (.slice A D.length c) D.length (flC hdC D)::F) (fun u F'=>u = .slice A (D.filter fun e=> !p e).length c∧F'=row t_api_Held 34 (.slice A (D.filter fun e=> !p e).length c) (D.filter fun e=> !p e).length (flC hdC (D.filter fun e=> !p e))::F):=by
 have hc2:∀ (C:List SP),∀ d∈D,∀ B:List SP,SC Tryz.prog f (pre++([.agg ⟨hdC d⟩]++post)) b (B++(C++F)) (fun u F'=>u = .bool (p d)∧F'=B++(C++F)):=fun C d hd B=>by
  have h:=hc d hd (B++C);rw [ap0] at h;exact h
 refine ao Tryz.func234 Z Z Z <| anf <| ae Z <| aby <| apn Z Z <| am Z Z Z (al2 (hc2 [_]) hz (fun w H=>(H.oat (k:=0) Z).sl) hn) ?_;rintro _ _ ⟨⟨P,T,hPT,hP,hT,rfl⟩,rfl⟩;have hfP:P.filter (fun e=> !p e)=P:=aq9.2 fun e he=>by rw [hP e he];rfl
 cases T with
 | nil =>
  rw [if_pos rfl];rw [aqg] at hPT;subst hPT;rw [hfP];refine ae Z <| ane <| ac <| anf <| apn Z Z <| ane <| ar Z <| anf <| apn Z Z <| ane <| aj <| al <| bh Z Z av ?_;exact ⟨rfl,rfl⟩
 | cons t T =>
 rw [if_neg (by simp)];have ht:=hT t T Z;have hl:D.length=P.length+(T.length+1):=by rw [hPT,aps,ap3]
 refine b6 (fun w H=>(H.oat (k:=0) Z).form) ?_;rintro ⟨A',c',hv,hnc,_,q3⟩;cases hv;obtain ⟨gg,oo,rfl⟩:=q3 (by omega);refine ae Z <| ane <| ac <| anf <| apn Z Z <| ane <| ai Z <| ah <| ab <| ac <| anf <| ae Z <| ay Z <| ae Z <| ane <| ak ?_;rw [show (P.length:Int)+1=((P.length+1:Nat):Int) by omega];have hti:D.take (P.length+1)=P ++ [t]:=by
  rw [hPT,atr,aqh (by omega),arp];rfl
 refine d6 (S:=Nat × Nat × List Hd) (fun s=> [(0,.slice (some ⟨gg,oo,none⟩) D.length c),(1,.func (.func f) ⟨pre⟩ ⟨post⟩),(5,ii s.1),(6,ii s.2.1)]) (fun s=>row t_api_Held 34 (.slice (some ⟨gg,oo,none⟩) D.length c) D.length (flC hdC s.2.2)::F)
  (fun s=>s.1<s.2.1∧s.2.1≤D.length∧s.2.2.length=D.length∧s.2.2.take s.1=(D.take s.2.1).filter (fun e=> !p e)∧s.2.2.drop s.2.1=D.drop s.2.1∧∀ d∈s.2.2,d∈D) (fun s=>D.length - s.2.1) (P.length,P.length+1,D) av ⟨by dsimp only;omega,by dsimp only;omega,rfl,?_,rfl,fun _ h=>h⟩ ?_
 ·dsimp only;rw [hti,ari,hfP,ard,ht,hPT,aru (by omega),aqk];simp
 rintro ⟨i,j,X⟩ ⟨hij,hj,hX,hXt,hXd,hXm⟩;dsimp only at hij hj hX hXt hXd hXm ⊢;have hXz:∀ d∈X,(hdC d).length=34:=fun d hd=>hz d (hXm d hd)
 refine ac <| anf <| apo Z Z Z <| ae Z <| ane ?_;refine cj Z (fun h1=> ?_) (fun h1=> ?_)
 ·have h1':j<D.length:=by omega
  have hx:X[j]? = some D[j]:=by
   have:=ap2 (·[0]?) hXd;simpa [arc,h1'] using this
  have hsn:D.take (j+1)=D.take j ++ [D[j]]:=apz h1';have fx:((flC hdC X).drop (j*34)).take 34=hdC D[j]:=by
   obtain ⟨hjX,hxe⟩:=ap4.1 hx;rw [← hxe];exact gJ hXz hjX
  have hym:=apw h1';have hcy:=hc _ hym;have hyl:=hz _ hym;have hyo:=ho _ hym;have hw:=gK (f:=hdC) (x:=D[j]) hXz hyl (i:=i) (by omega);have hXd2:X.drop (j+1)=D.drop (j+1):=by
   have:=ap2 List.tail hXd;simpa [List.tail_drop] using this
  generalize hy:D[j]=y at *;have hel:=l9 hXz;rw [hX] at hel;obtain ⟨e1,e2⟩:=k5 (X:=X) (y:=y) hij (by omega);generalize hdC y=cs at *;refine ah <| ab <| ac <| ak <| anf <| apn Z Z <| ay Z ?_;refine kH 0 (j*34) Z Z Z Z Z Z Z (by rw [b5,apu]) (by omega) fx (by rw [hyl];rfl) ?_;refine bq Z Z Z Z Z fun g7=> ?_;refine eh 0 Z Z Z Z Z Z Z hyl hyo (by rw [hyl];rfl) ?_;refine aby <| ae Z ?_;refine b7 0 Z Z Z Z Z Z (cp (by rw [hyl];rfl)) Z ?_;refine au Z Z Z (hcy [pt g7 t_api_Held cs,row t_api_Held 34 (.slice (some ⟨gg,oo,none⟩) D.length c) D.length (flC hdC X)]) <| ae Z <| ane ?_;refine w9 Z (fun q=> ?_) (fun q=> ?_)
  ·have q':p y=false:=by simpa using q
   refine anf <| apn Z Z ?_;refine b7 0 Z Z Z Z Z Z (cp (by rw [hyl];rfl)) Z ?_;refine ay Z ?_;refine zt 1 (i*34) Z Z Z Z Z Z (by rw [hyl];rfl) Z hw Z (by rw [b5,apu]) (by rw [hel,hyl];omega) hyo ?_;refine ane <| aa <| ae Z <| ay Z <| ae Z <| ad <| bg <| ab <| aa <| ae Z <| ay Z <| ae Z <| ad ?_;rw [show (i:Int)+1=((i+1:Nat):Int) by omega,show (j:Int)+1=((j+1:Nat):Int) by omega];refine dj (i+1,j+1,X.set i y) (af 2 [1] Z) ⟨by dsimp only;omega,h1',by rw [asw];exact hX,?_,?_,fun d hd=> ?_⟩
   ·dsimp only;rw [e1,hXt,hsn,ari,ard,q'];rfl
   ·dsimp only;rw [← hXd2];exact (k5 (X:=X) (y:=y) (j:=j+1) (by omega) (by omega)).2
   ·rcases asc hd with h | h
    ·exact hXm d h
    ·rw [h];exact hym
  ·have q':p y=true:=by simpa using q
   refine ah <| bg <| ab <| aa <| ae Z <| ay Z <| ae Z <| ad ?_;rw [show (j:Int)+1=((j+1:Nat):Int) by omega];refine dj (i,j+1,X) (af 2 [1] Z) ⟨by dsimp only;omega,h1',hX,?_,hXd2,hXm⟩;dsimp only;rw [hXt,hsn,ari,ard,q'];simp
 ·obtain rfl:j=D.length:=by omega
  rw [aqk] at hXt;have hil:i=(D.filter fun e=> !p e).length:=by
   have:=ap2 List.length hXt;rw [ap7] at this;omega
  have e9:=gO hXz i;rw [hXt] at e9;have hi1:((i:Int)).toNat=i:=apu i;refine b8 <| aw <| ax <| aq <| ab <| anf <| apn Z Z <| ay Z ?_;refine bn 38 (.slice (if c=i then some ⟨gg,oo,none⟩ else (some (⟨gg,oo,none⟩:Addr)).map (·.add (i*34))) (D.length - i) (c - i)) Z (by rw [hi1]) ?_;refine yu 0 Z Z Z Z Z Z Z Z Z Z (fun h=>by
   rw [if_neg (by omega)];simp only [aq5,Addr.add,apx]
   split <;> simp_all) (by omega) ?_
  rw [e9];refine aby <| apn Z Z <| ay Z <| ae Z <| ane <| aj <| bh Z Z av ?_;rw [← hil];exact ⟨rfl,rfl⟩
end
section
variable {b:World} {F:List SP} {p:Ev→Bool} {f:Nat} [Bodied Tryz.prog f] {pre post:List Value} {D:List Ev} {va:Value}
 (hc:∀ d∈D,∀ B:List SP,SC Tryz.prog f (pre++([.agg ⟨evC d⟩]++post)) b (B++F) (fun u F'=>u = .bool (p d)∧F'=B++F)) (hz:∀ d∈D,(evC d).length=39)
include hc hz
end

def at0 {α:Type} (cm:α→Int):List α→Bool
 | [] => false
 | a :: _ => decide (cm a = 0)
section
variable {b:World} {F:List SP} {cm:Tg→Int} {f:Nat} [Bodied Tryz.prog f] {D:List Tg} {va:Value} {sx:ByteArray}
 (hc:∀ d∈D,∀ B:List SP,SC Tryz.prog f ([.agg ⟨tgC d⟩,.string sx]) b (B++F) (fun u F'=>u=ii (cm d)∧F'=B++F)) (hz:∀ d∈D,(tgC d).length=2)
include hc hz
theorem al4 (ha:∀ w,Sat b F w→SL w 2 va D.length (flC tgC D)) (hm:D.length≤1000000) (hs:∀ i j (hi:i<D.length) (hj:j<D.length),i<j→cm D[j]<0→cm D[i]<0) :
  SC Tryz.prog js [va,.string sx,.func (.func f) ⟨[]⟩ ⟨[]⟩] b F (fun v F'=>(∃ l1 l2,D=l1++l2∧(∀ a∈l1,cm a<0)∧(∀ a∈l2,¬ cm a<0)∧v = .tuple ⟨[ii l1.length,.bool (at0 cm l2)]⟩)∧F'=F):=by
 refine ao Tryz.func236 Z Z Z <| bu (fun w H=>ci (ha w H)) ?_;rintro ⟨A,c,rfl,_,_,_,h4,_⟩;refine anf <| apn Z Z <| aby <| apo Z Z Z <| aby <| apo Z Z Z <| ane <| ac <| ak ?_;refine d6 (S:=Nat × Nat) (fun s=> [(0,.slice A D.length c),(1,.string sx),(2,.func (.func f) ⟨[]⟩ ⟨[]⟩),(8,ii D.length),(9,ii s.1),(10,ii s.2)]) (fun _=>F)
  (fun s=>s.1≤s.2∧s.2≤D.length∧(∀ a∈D.take s.1,cm a<0)∧(∀ a∈D.drop s.2,¬ cm a<0)) (fun s=>s.2 - s.1) (0,D.length) av
  ⟨aqc _,aqp _,fun a h=>by simp at h,fun a h=>by simp at h⟩ ?_
 rintro ⟨i,j⟩ ⟨hij,hjn,hlo,hhi⟩;dsimp only at hij hjn hlo hhi ⊢;have ca:∀ {m:Nat} {gA oA:Nat} (hA:A=some ⟨gA,oA,none⟩) (hmn:m<D.length),∀ w,Sat b F w→∀ q,q<2→w.cell? ⟨gA,oA+m*2+q,none⟩=(tgC D[m])[q]?:=fun hA hmn w H q hq=>by
  subst hA;exact ej (ha w H) hz hmn hq
 refine ac <| anf <| apo Z Z Z <| ane ?_;refine cj Z (fun g1=> ?_) (fun g1=> ?_)
 ·refine ah <| ab <| ak <| anf <| apn Z Z <| ay Z <| ae Z <| ay Z <| apn Z Z <| aby <| apo Z Z Z ?_;rw [Ge (by omega)];obtain ⟨m,hm⟩:∃ m,m=(i+j) / 2:=⟨_,rfl⟩;rw [← hm];have hmn:m<D.length:=by omega
  obtain ⟨gA,oA,rfl⟩:=h4 (by omega);have cb:=ca Z hmn;have hcy:=hc _ (apw hmn);have hyl:=hz _ (apw hmn);obtain ⟨y,hy⟩:∃ y,y=D[m]:=⟨_,rfl⟩;rw [← hy] at cb hcy hyl;generalize tgC y=cs at *;refine ay Z ?_;refine fc Z (fun w H=>di (cs:=cs) Z Z Z hyl (fun q hq=>by rw [b5,apu];exact cb w H q (by rw [hyl] at hq;exact hq))) Z ?_;refine ae Z <| au Z Z Z (hcy []) <| ae Z <| ane ?_;refine cj Z (fun g2=> ?_) (fun g2=> ?_)
  ·refine aa <| ae Z <| ay Z <| ae Z <| ad <| bg ?_;refine dj (m+1,j) av ⟨by dsimp only;omega,hjn,fun a ha'=> ?_,hhi⟩;obtain ⟨q,hq1,hq2⟩:=List.mem_take_iff_getElem.1 ha';dsimp only at hq1;subst hq2;rcases asl q m with hqm | hqm
   ·exact hs q m (by omega) hmn hqm (hy▸g2)
   ·have:q=m:=by omega
    subst this;rw [← hy];exact g2
  ·refine aa <| apn Z Z <| ad <| bg ?_;refine dj (i,m) av ⟨by dsimp only;omega,by dsimp only;omega,hlo,fun a ha'=> ?_⟩;obtain ⟨q,hq1,hq2⟩:=List.mem_drop_iff_getElem.1 ha';dsimp only at hq1 hq2;subst hq2;rcases aq4 q with hq0 | hq0
   ·subst hq0;rw [hy] at g2;exact g2
   ·exact fun h=>g2 (hy▸hs m (m+q) hmn (by omega) (by omega) h)
 ·have hji:j=i:=by omega
  subst hji;have hlen:(D.take j).length=j:=by rw [ap7];omega
  refine b8 <| aw <| ax <| aq <| ab <| anf ?_
  (iterate 5 refine ae Z ?_)
  by_cases hin:j<D.length
  ·obtain ⟨gA,oA,rfl⟩:=h4 (by omega);have cb:=ca Z hin;have hcy:=hc _ (apw hin);have hyl:=hz _ (apw hin);have hd:D.drop j=D[j]::D.drop (j+1):=aqq hin;generalize D[j]=y at *;generalize tgC y=cs at *;refine dR 39 Z <| apo Z Z Z <| ay Z ?_;refine fc Z (fun w H=>di (cs:=cs) Z Z Z hyl (fun q hq=>by rw [b5,apu];exact cb w H q (by rw [hyl] at hq;exact hq))) Z ?_;refine ae Z <| au Z Z Z (hcy []) <| apo Z Z Z <| ae Z <| ane <| aj <| fb Z Z Z av <| ⟨⟨D.take j,D.drop j,(aqs j D).symm,hlo,hhi,?_⟩,rfl⟩;rw [hlen,hd];rfl
  ·refine qp 39 Z ?_
   (iterate 11 refine ae Z ?_)
   refine ane <| aj <| fb Z Z Z av <| ⟨⟨D.take j,D.drop j,(aqs j D).symm,hlo,hhi,?_⟩,rfl⟩;rw [hlen,List.drop_eq_nil_of_le (by omega)];rfl
end
section
variable {b:World} {F:List SP} {cm:Rp→Int} {f:Nat} [Bodied Tryz.prog f] {D:List Rp} {va:Value} {sx:ByteArray}
 (hc:∀ d∈D,∀ B:List SP,SC Tryz.prog f ([.agg ⟨rpC d⟩,.string sx]) b (B++F) (fun u F'=>u=ii (cm d)∧F'=B++F)) (hz:∀ d∈D,(rpC d).length=3)
include hc hz
theorem al5 (ha:∀ w,Sat b F w→SL w 3 va D.length (flC rpC D)) (hm:D.length≤1000000) (hs:∀ i j (hi:i<D.length) (hj:j<D.length),i<j→cm D[j]<0→cm D[i]<0) :
  SC Tryz.prog jm [va,.string sx,.func (.func f) ⟨[]⟩ ⟨[]⟩] b F (fun v F'=>(∃ l1 l2,D=l1++l2∧(∀ a∈l1,cm a<0)∧(∀ a∈l2,¬ cm a<0)∧v = .tuple ⟨[ii l1.length,.bool (at0 cm l2)]⟩)∧F'=F):=by
 refine ao Tryz.func229 Z Z Z <| bu (fun w H=>ci (ha w H)) ?_;rintro ⟨A,c,rfl,_,_,_,h4,_⟩;refine anf <| apn Z Z <| aby <| apo Z Z Z <| aby <| apo Z Z Z <| ane <| ac <| ak ?_;refine d6 (S:=Nat × Nat) (fun s=> [(0,.slice A D.length c),(1,.string sx),(2,.func (.func f) ⟨[]⟩ ⟨[]⟩),(8,ii D.length),(9,ii s.1),(10,ii s.2)]) (fun _=>F)
  (fun s=>s.1≤s.2∧s.2≤D.length∧(∀ a∈D.take s.1,cm a<0)∧(∀ a∈D.drop s.2,¬ cm a<0)) (fun s=>s.2 - s.1) (0,D.length) av
  ⟨aqc _,aqp _,fun a h=>by simp at h,fun a h=>by simp at h⟩ ?_
 rintro ⟨i,j⟩ ⟨hij,hjn,hlo,hhi⟩;dsimp only at hij hjn hlo hhi ⊢;have ca:∀ {m:Nat} {gA oA:Nat} (hA:A=some ⟨gA,oA,none⟩) (hmn:m<D.length),∀ w,Sat b F w→∀ q,q<3→w.cell? ⟨gA,oA+m*3+q,none⟩=(rpC D[m])[q]?:=fun hA hmn w H q hq=>by
  subst hA;exact ej (ha w H) hz hmn hq
 refine ac <| anf <| apo Z Z Z <| ane ?_;refine cj Z (fun g1=> ?_) (fun g1=> ?_)
 ·refine ah <| ab <| ak <| anf <| apn Z Z <| ay Z <| ae Z <| ay Z <| apn Z Z <| aby <| apo Z Z Z ?_;rw [Ge (by omega)];obtain ⟨m,hm⟩:∃ m,m=(i+j) / 2:=⟨_,rfl⟩;rw [← hm];have hmn:m<D.length:=by omega
  obtain ⟨gA,oA,rfl⟩:=h4 (by omega);have cb:=ca Z hmn;have hcy:=hc _ (apw hmn);have hyl:=hz _ (apw hmn);obtain ⟨y,hy⟩:∃ y,y=D[m]:=⟨_,rfl⟩;rw [← hy] at cb hcy hyl;generalize rpC y=cs at *;refine ay Z ?_;refine fc Z (fun w H=>di (cs:=cs) Z Z Z hyl (fun q hq=>by rw [b5,apu];exact cb w H q (by rw [hyl] at hq;exact hq))) Z ?_;refine ae Z <| au Z Z Z (hcy []) <| ae Z <| ane ?_;refine cj Z (fun g2=> ?_) (fun g2=> ?_)
  ·refine aa <| ae Z <| ay Z <| ae Z <| ad <| bg ?_;refine dj (m+1,j) av ⟨by dsimp only;omega,hjn,fun a ha'=> ?_,hhi⟩;obtain ⟨q,hq1,hq2⟩:=List.mem_take_iff_getElem.1 ha';dsimp only at hq1;subst hq2;rcases asl q m with hqm | hqm
   ·exact hs q m (by omega) hmn hqm (hy▸g2)
   ·have:q=m:=by omega
    subst this;rw [← hy];exact g2
  ·refine aa <| apn Z Z <| ad <| bg ?_;refine dj (i,m) av ⟨by dsimp only;omega,by dsimp only;omega,hlo,fun a ha'=> ?_⟩;obtain ⟨q,hq1,hq2⟩:=List.mem_drop_iff_getElem.1 ha';dsimp only at hq1 hq2;subst hq2;rcases aq4 q with hq0 | hq0
   ·subst hq0;rw [hy] at g2;exact g2
   ·exact fun h=>g2 (hy▸hs m (m+q) hmn (by omega) (by omega) h)
 ·have hji:j=i:=by omega
  subst hji;have hlen:(D.take j).length=j:=by rw [ap7];omega
  refine b8 <| aw <| ax <| aq <| ab <| anf ?_
  (iterate 5 refine ae Z ?_)
  by_cases hin:j<D.length
  ·obtain ⟨gA,oA,rfl⟩:=h4 (by omega);have cb:=ca Z hin;have hcy:=hc _ (apw hin);have hyl:=hz _ (apw hin);have hd:D.drop j=D[j]::D.drop (j+1):=aqq hin;generalize D[j]=y at *;generalize rpC y=cs at *;refine dR 39 Z <| apo Z Z Z <| ay Z ?_;refine fc Z (fun w H=>di (cs:=cs) Z Z Z hyl (fun q hq=>by rw [b5,apu];exact cb w H q (by rw [hyl] at hq;exact hq))) Z ?_;refine ae Z <| au Z Z Z (hcy []) <| apo Z Z Z <| ae Z <| ane <| aj <| fb Z Z Z av <| ⟨⟨D.take j,D.drop j,(aqs j D).symm,hlo,hhi,?_⟩,rfl⟩;rw [hlen,hd];rfl
  ·refine qp 39 Z ?_
   (iterate 11 refine ae Z ?_)
   refine ane <| aj <| fb Z Z Z av <| ⟨⟨D.take j,D.drop j,(aqs j D).symm,hlo,hhi,?_⟩,rfl⟩;rw [hlen,List.drop_eq_nil_of_le (by omega)];rfl
end
section
variable {b:World} {F:List SP} {cm:Hd→Int} {f:Nat} [Bodied Tryz.prog f] {D:List Hd} {va:Value} {x:Hd}
 (hc:∀ d∈D,∀ B:List SP,SC Tryz.prog f ([.agg ⟨hdC d⟩,hdV x]) b (B++F) (fun u F'=>u=ii (cm d)∧F'=B++F)) (hz:∀ d∈D,(hdC d).length=34)
include hc hz
theorem al6 (hx:x.id.length=32) (ha:∀ w,Sat b F w→SL w 34 va D.length (flC hdC D)) (hm:D.length≤1000000) (hs:∀ i j (hi:i<D.length) (hj:j<D.length),i<j→cm D[j]<0→cm D[i]<0) :
  SC Tryz.prog j9 [va,hdV x,.func (.func f) ⟨[]⟩ ⟨[]⟩] b F (fun v F'=>(∃ l1 l2,D=l1++l2∧(∀ a∈l1,cm a<0)∧(∀ a∈l2,¬ cm a<0)∧v = .tuple ⟨[ii l1.length,.bool (at0 cm l2)]⟩)∧F'=F):=by
 refine ao Tryz.func232 Z Z Z <| bu (fun w H=>ci (ha w H)) ?_;rintro ⟨A,c,rfl,_,_,_,h4,_⟩;refine anf <| br Z Z Z Z Z fun g4=>apn Z Z <| aby <| apo Z Z Z <| aby <| apo Z Z Z <| ane <| ac <| ak ?_
 refine d6 (S:=Nat × Nat) (fun s=> [(0,.slice A D.length c),(4,pp g4),(2,.func (.func f) ⟨[]⟩ ⟨[]⟩),(8,ii D.length),(9,ii s.1),(10,ii s.2)]) (fun _=>pt g4 t_api_Held (hdC x)::F)
  (fun s=>s.1≤s.2∧s.2≤D.length∧(∀ a∈D.take s.1,cm a<0)∧(∀ a∈D.drop s.2,¬ cm a<0)) (fun s=>s.2 - s.1) (0,D.length) av
  ⟨aqc _,aqp _,fun a h=>by simp at h,fun a h=>by simp at h⟩ ?_
 rintro ⟨i,j⟩ ⟨hij,hjn,hlo,hhi⟩;dsimp only at hij hjn hlo hhi ⊢;have ca:∀ {m:Nat} {gA oA:Nat} (hA:A=some ⟨gA,oA,none⟩) (hmn:m<D.length),∀ w,Sat b F w→∀ q,q<34→w.cell? ⟨gA,oA+m*34+q,none⟩=(hdC D[m])[q]?:=fun hA hmn w H q hq=>by
  subst hA;exact ej (ha w H) hz hmn hq
 refine ac <| anf <| apo Z Z Z <| ane ?_;refine cj Z (fun g1=> ?_) (fun g1=> ?_)
 ·refine ah <| ab <| ak <| anf <| apn Z Z <| ay Z <| ae Z <| ay Z <| apn Z Z <| ane <| ac ?_;rw [Ge (by omega)];obtain ⟨m,hm⟩:∃ m,m=(i+j) / 2:=⟨_,rfl⟩;rw [← hm];have hmn:m<D.length:=by omega
  obtain ⟨gA,oA,rfl⟩:=h4 (by omega);have cb:=ca Z hmn;have hcy:=hc _ (apw hmn);have hyl:=hz _ (apw hmn);obtain ⟨y,hy⟩:∃ y,y=D[m]:=⟨_,rfl⟩;rw [← hy] at cb hcy hyl;generalize hdC y=cs at *
  skip
  refine cq flo _ (by decide +kernel) av <| bj Z Zl <| bj Z Zl <| bj Z Zl <| dx Z Z ?_;refine j7 Z (fun w H=>di (cs:=cs) Z Z Z hyl (fun q hq=>by rw [b5,apu];exact cb w (H.ent (af 1 [] Z)) q (by rw [hyl] at hq;exact hq))) Z Z ?_;refine fw 0 Z Z Z Z Z Z (cp (by rw [mq hx];rfl)) Z Z ?_;refine fe Z Z Z Z (hcy [_]) av <| bj Z Zl <| ap <| ab ?_;refine cj Z (fun g2=> ?_) (fun g2=> ?_)
  ·refine aa <| ae Z <| ay Z <| ae Z <| ad <| bg ?_;refine dj (m+1,j) av ⟨by dsimp only;omega,hjn,fun a ha'=> ?_,hhi⟩;obtain ⟨q,hq1,hq2⟩:=List.mem_take_iff_getElem.1 ha';dsimp only at hq1;subst hq2;rcases asl q m with hqm | hqm
   ·exact hs q m (by omega) hmn hqm (hy▸g2)
   ·have:q=m:=by omega
    subst this;rw [← hy];exact g2
  ·refine aa <| apn Z Z <| ad <| bg ?_;refine dj (i,m) av ⟨by dsimp only;omega,by dsimp only;omega,hlo,fun a ha'=> ?_⟩;obtain ⟨q,hq1,hq2⟩:=List.mem_drop_iff_getElem.1 ha';dsimp only at hq1 hq2;subst hq2;rcases aq4 q with hq0 | hq0
   ·subst hq0;rw [hy] at g2;exact g2
   ·exact fun h=>g2 (hy▸hs m (m+q) hmn (by omega) (by omega) h)
 ·have hji:j=i:=by omega
  subst hji;have hlen:(D.take j).length=j:=by rw [ap7];omega
  refine b8 <| aw <| ax <| aq <| ab <| ac <| cq flo _ (by decide +kernel) av ?_
  (iterate 5 refine bj Z Zl ?_)
  by_cases hin:j<D.length
  ·obtain ⟨gA,oA,rfl⟩:=h4 (by omega);have cb:=ca Z hin;have hcy:=hc _ (apw hin);have hyl:=hz _ (apw hin);have hd:D.drop j=D[j]::D.drop (j+1):=aqq hin;generalize D[j]=y at *;generalize hdC y=cs at *;refine cJ 39 Z (by omega) <| bj Z Zl <| bj Z Zl <| bj Z Zl <| dx Z Z ?_;refine j7 Z (fun w H=>di (cs:=cs) Z Z Z hyl (fun q hq=>by rw [b5,apu];exact cb w (H.ent (af 1 [] Z)) q (by rw [hyl] at hq;exact hq))) Z Z ?_;refine fw 0 Z Z Z Z Z Z (cp (by rw [mq hx];rfl)) Z Z ?_;refine fe Z Z Z Z (hcy [_]) av <| bj Z Zl <| bj Z Zl <| bj Z Zl <| bj Z Zl <| ap <| ab <| aj <| fb Z Z Z (af 1 [] Z) <| ⟨⟨D.take j,D.drop j,(aqs j D).symm,hlo,hhi,?_⟩,rfl⟩;rw [hlen,hd];rfl
  ·refine oF 39 Z (by omega) ?_
   (iterate 6 refine bj Z Zl ?_)
   refine bj Z (.inr Z) <| bj Z Zl <| bj Z Zl <| bj Z Zl <| bj Z Zl <| ap <| ab <| aj <| fb Z Z Z (af 1 [] Z) <| ⟨⟨D.take j,D.drop j,(aqs j D).symm,hlo,hhi,?_⟩,rfl⟩;rw [hlen,List.drop_eq_nil_of_le (by omega)];rfl
end

section
variable {b:World} {F:List SP} {l1 l2:List Tg} {x:Tg} {gl c:Nat} {A:Option Addr}
theorem aae (h1:∀ d∈l1,(tgC d).length=2) (h2:∀ d∈l2,(tgC d).length=2) (xl:(tgC x).length=2) (o2:∀ d∈l2,∀ u∈tgC d,u.oneCell'=true) (xo:∀ u∈tgC x,u.oneCell'=true) (hm:(l1++l2).length≤1000000) :
  SC Tryz.prog m7 [.slice A (l1++l2).length c,ii l1.length,.slice (some ⟨gl,0,none⟩) 1 1] b (row dw 2 (.slice A (l1++l2).length c) (l1++l2).length (flC tgC (l1++l2))::pt gl dw (tgC x)::F) (fun v F'=>F'=row dw 2 v (l1++x::l2).length (flC tgC (l1++x::l2))::F):=by
 have hl1:(flC tgC l1).length=l1.length*2:=l9 h1;have hl2:(flC tgC l2).length=l2.length*2:=l9 h2;have hn:(l1++l2).length=l1.length+l2.length:=aps;have hfin:flC tgC (l1++x::l2)=flC tgC l1++tgC x++flC tgC l2:=by rw [ic,flC,ap0]
 have hfl:(l1++x::l2).length=l1.length+l2.length+1:=by rw [aps,ap3];omega
 have ho2:∀ u∈flC tgC l2,u.oneCell'=true:=yy o2;have e1:flC tgC (l1 ++ [x])=flC tgC l1++tgC x:=by rw [ic,flC,flC,aqg]
 generalize tgC x=cs at *;refine ao Tryz.func238 Z Z Z <| bu (fun w H=>(H.oat (k:=0) Z).form) ?_;rintro ⟨A',c',hv,q1,q2,q3⟩;cases hv;refine anf <| ae Z <| aby <| apn Z Z <| ay Z <| aby <| apo Z Z Z <| ane <| ac <| anf <| apn Z Z <| ane <| ai Z <| ah <| ab <| anf <| apo Z Z Z <| ane <| ac <| anf <| apo Z Z Z <| ane ?_;by_cases he:l2 = []
 ·subst he;rw [aqg] at *;refine Ab 22 Z Z <| ar Z <| anf <| apn Z Z ?_;refine ef 0 Z Z Z Z Z Z Z Z Z (m:=1) (news:=cs) (fun w H=>(H.blk (k:=1) Z).sl (by rw [xl]) (by decide)) xo (by omega) (fun _=>rfl) fun v2=> ?_;refine ae Z <| ane <| aj <| al ?_;rw [← e1];have e2:l1.length+1=(l1 ++ [x]).length:=by simp
  rw [e2];refine bh Z Z (af 2 [0] Z) ?_
  rfl
 have hl20:0<l2.length:=List.length_pos_iff.2 he;refine vj 22 Z <| ai Z <| ah <| ab <| ac <| anf <| apn Z Z <| ay Z <| apo Z Z Z <| ane ?_;have hpre:(flC tgC (l1++l2)).take (l1.length*2)=flC tgC l1:=by rw [ic,← hl1,arl rfl]
 have hpost:(flC tgC (l1++l2)).drop (l1.length*2)=flC tgC l2:=by rw [ic,← hl1,asf rfl]
 obtain ⟨gA,oA,rfl⟩:=q3 (by omega);by_cases hc:c<(l1++l2).length+1
 ·refine Ad 31 Z <| ar Z <| anf <| apn Z Z <| ay Z <| apn Z Z <| ay Z <| ae Z <| ay Z ?_;refine bn 34 (.slice (some ⟨gA,oA,none⟩) l1.length c) Z (by simp) ?_;refine bn 39 (ii ((l2.length+1:Nat):Int)) Z (by congr 1;omega) ?_;refine rQ (cs:=flC tgC l1) (j:=l1.length) (m:=l2.length+1) (c:=c) Z Z Z Z Z Z Z Z Z (fun w H=>by have:=((H.oat (k:=0) Z).take (k:=l1.length) (by omega)).sl;rwa [hpre] at this) (by omega) (by omega) (by omega) fun gg c2 zs hzs=> ?_;refine b6 (fun w H=>(H.oat (k:=0) Z).form) ?_;rintro ⟨_,_,hv2,p1,p2,_⟩;cases hv2;have hz0:(flC tgC l1++zs).length=(l1.length+l2.length+1)*2:=by rw [aps,hl1,hzs];omega
  refine ae Z <| aby <| apn Z Z <| ay Z <| ae Z ?_;refine bn 43 (.slice (some ⟨gg,l1.length*2,none⟩) (l2.length+1) (c2 - l1.length)) Z (by
   simp only [apu];rw [if_neg (by omega)];simp only [aq5,Addr.add];rw [show l1.length+(l2.length+1) - l1.length=l2.length+1 by omega]
   split <;> simp_all) ?_
  refine r9 0 (l1.length*2) (m:=1) (news:=cs) (cs':=flC tgC l1++cs++zs.drop 2) Z Z Z Z Z Z Z Z Z (by rw [show min 1 (l2.length+1)=1 by omega,aqh (by omega),← hl1,re,xl]) Z (by omega) (fun w H=>(H.blk (k:=2) Z).sl (by rw [xl]) (by decide)) (by rw [hz0];omega) (fun u hu=>xo u (arf hu)) ?_;refine ane <| ac <| cq flo F (by decide +kernel) (af 3 [] Z) <| bj Z Zl <| bj Z Zl <| bj Z Zl <| dx Z Z <| dx Z Z <| bj Z Zl <| bj Z Zl <| dx Z Z ?_;refine eu 50 (.slice (some ⟨gg,(l1.length+1)*2,none⟩) l2.length (c2 - (l1.length+1))) Z (by
   rw [show ((l1.length:Int)+((1:Nat):Int)).toNat=l1.length+1 by omega,if_neg (by omega)];simp only [aq5,Addr.add];rw [show l1.length+(l2.length+1) - (l1.length+1)=l2.length by omega]
   split <;> simp_all) ?_
  refine eu 53 (.slice (if c=l1.length then some ⟨gA,oA,none⟩ else (some (⟨gA,oA,none⟩:Addr)).map (·.add (l1.length*2))) l2.length (c - l1.length)) Z (by
   simp only [apu];rw [show (l1++l2).length - l1.length=l2.length by omega]) ?_
  refine sb 0 ((l1.length+1)*2) (m:=l2.length) (news:=flC tgC l2) (cs':=flC tgC l1++cs++flC tgC l2) Z Z Z Z Z Z Z Z Z Z (by
   rw [Nat.min_self,aqh (by omega),show (l1.length+1)*2=(flC tgC l1++cs).length by rw [aps,hl1,xl];omega,re,aq0 (by rw [aqw,hzs,hl2];omega),aqg]) Z (by omega) (fun w H=>by
   have:=((H.oat (k:=1) Z).drop (k:=l1.length) (by omega)).sl;rwa [hpost,show (l1++l2).length - l1.length=l2.length by omega] at this) (by simp only [aps,aqw,hl1,xl,hzs];omega) (fun u hu=>ho2 u (arf hu)) (af 3 [] Z) ?_
  refine ap <| ab <| anf <| apn Z Z <| ane <| aj <| al ?_;rw [← hfin,show l1.length+(l2.length+1)=(l1++x::l2).length by omega];refine bh Z Z (af 3 [0] Z) ?_
  rfl
 refine vj 31 Z <| ai Z <| ah <| ab <| anf <| apo Z Z Z <| ay Z <| ay Z <| ae Z <| ane <| ac <| anf <| apo Z Z Z <| ae Z <| ay Z <| ay Z ?_;refine bn 0 (.slice (some ⟨gA,oA,none⟩) ((l1++l2).length+1) c) Z (by
  rw [show (((l1++l2).length:Int)+((1:Nat):Int)).toNat=(l1++l2).length+1 by omega]) ?_
 refine mN 0 Z (by omega) (fun _=>rfl) fun zs hzs=> ?_;have hN:(l1++l2).length+1=l1.length+(l2.length+1):=by omega
 have hI:(flC tgC (l1++l2)).length=(l1++l2).length*2:=by rw [ic,aps,hl1,hl2];omega
 have hbase:flC tgC (l1++l2)++zs=flC tgC l1++(flC tgC l2++zs):=by rw [ic,ap0]
 skip
 refine bn 66 (.slice (some ⟨gA,oA+(l1.length+1)*2,none⟩) l2.length (c - (l1.length+1))) Z (by
  rw [show ((l1.length:Int)+((1:Nat):Int)).toNat=l1.length+1 by omega,if_neg (by omega)];simp only [aq5,Addr.add];rw [show (((l1++l2).length:Int)+((1:Nat):Int)).toNat - (l1.length+1)=l2.length by omega]
  split <;> simp_all) ?_
 refine E6 (tS:=kX) (tR:=zi) 1 0 Z Z Z Tryz.func277 (by kernel_rfl) (by kernel_rfl) (by kernel_rfl) (by kernel_rfl) Z Z Z Z Z (by omega) ?_;refine ae Z <| ane <| ar Z <| ac <| cq flo F (by decide +kernel) (af 2 [] Z) <| bj Z Zl <| bj Z Zl <| bj Z Zl <| dx Z Z <| dx Z Z <| bj Z Zl <| bj Z Zl <| dx Z Z ?_;refine eu 73 (.slice (some ⟨gA,oA+(l1.length+1)*2,none⟩) l2.length (c - (l1.length+1))) Z (by
  rw [show ((l1.length:Int)+((1:Nat):Int)).toNat=l1.length+1 by omega,if_neg (by omega)];simp only [aq5,Addr.add];rw [show (l1++l2).length+1 - (l1.length+1)=l2.length by omega]
  split <;> simp_all) ?_
 refine eu 76 (.slice (if c=l1.length then some ⟨gA,oA,none⟩ else (some (⟨gA,oA,none⟩:Addr)).map (·.add (l1.length*2))) (l2.length+1) (c - l1.length)) Z (by
  simp only [apu];rw [show (l1++l2).length+1 - l1.length=l2.length+1 by omega]) ?_
 have hw:(flC tgC l2++zs).length=(l2.length+1)*2:=by rw [aps,hl2,hzs];omega
 refine sb 0 ((l1.length+1)*2) (m:=l2.length+1) (news:=flC tgC l2++zs) (cs':=flC tgC l1++(flC tgC l2++zs).take 2++flC tgC l2) Z Z Z Z Z Z Z Z Z Z (by
  rw [show min (l2.length+1) l2.length=l2.length by omega,arl hl2,hbase];have e1:flC tgC l1++(flC tgC l2++zs)=(flC tgC l1++(flC tgC l2++zs).take 2)++(flC tgC l2++zs).drop 2:=by rw [ap0,aqs]
  rw [e1,show (l1.length+1)*2=(flC tgC l1++(flC tgC l2++zs).take 2).length by rw [aps,ap7,hl1,hw];omega,re,aq0 (by rw [aqw,hw,hl2];omega),aqg]) Z (by omega) (fun w H=>by
  have:=((H.oat (k:=0) Z).drop (k:=l1.length) (by omega)).sl;rwa [hbase,← hl1,asf rfl,hl1,show (l1++l2).length+1 - l1.length=l2.length+1 by omega] at this) (by rw [aps,hI,hzs];omega) (fun u hu=>by
  rw [show min (l2.length+1) l2.length=l2.length by omega,arl hl2] at hu;exact ho2 u hu) (af 2 [] Z) ?_
 refine ap <| ab <| anf <| apn Z Z <| ay Z <| ae Z ?_;refine bn 80 (.slice (some ⟨gA,oA+l1.length*2,none⟩) (l2.length+1) (c - l1.length)) Z (by
  simp only [apu];rw [if_neg (by omega)];simp only [aq5,Addr.add];rw [show (l1++l2).length+1 - l1.length=l2.length+1 by omega]
  split <;> simp_all) ?_
 refine r9 0 (l1.length*2) (m:=1) (news:=cs) (cs':=flC tgC l1++cs++flC tgC l2) Z Z Z Z Z Z Z Z Z (by
  rw [show min 1 (l2.length+1)=1 by omega,aqh (l:=cs) (by omega),← hl1,ap0 (flC tgC l1),re,xl,asf (by rw [ap7,hw];omega)]) Z (by omega) (fun w H=>(H.blk (k:=1) Z).sl (by rw [xl]) (by decide)) (by simp only [aps,ap7,hl1,hl2,hzs];omega) (fun u hu=>xo u (arf hu)) ?_
 refine aby <| apn Z Z <| ane <| aj <| al ?_;rw [← hfin,show (l1++l2).length+1=(l1++x::l2).length by omega];refine bh Z Z (af 2 [0] Z) ?_
 rfl
end
section
variable {b:World} {F:List SP} {l1 l2:List Rp} {x:Rp} {gl c:Nat} {A:Option Addr}
theorem aaf (h1:∀ d∈l1,(rpC d).length=3) (h2:∀ d∈l2,(rpC d).length=3) (xl:(rpC x).length=3) (o2:∀ d∈l2,∀ u∈rpC d,u.oneCell'=true) (xo:∀ u∈rpC x,u.oneCell'=true) (hm:(l1++l2).length≤1000000) :
  SC Tryz.prog mf [.slice A (l1++l2).length c,ii l1.length,.slice (some ⟨gl,0,none⟩) 1 1] b (row bm 3 (.slice A (l1++l2).length c) (l1++l2).length (flC rpC (l1++l2))::pt gl bm (rpC x)::F) (fun v F'=>F'=row bm 3 v (l1++x::l2).length (flC rpC (l1++x::l2))::F):=by
 have hl1:(flC rpC l1).length=l1.length*3:=l9 h1;have hl2:(flC rpC l2).length=l2.length*3:=l9 h2;have hn:(l1++l2).length=l1.length+l2.length:=aps;have hfin:flC rpC (l1++x::l2)=flC rpC l1++rpC x++flC rpC l2:=by rw [ic,flC,ap0]
 have hfl:(l1++x::l2).length=l1.length+l2.length+1:=by rw [aps,ap3];omega
 have ho2:∀ u∈flC rpC l2,u.oneCell'=true:=yy o2;have e1:flC rpC (l1 ++ [x])=flC rpC l1++rpC x:=by rw [ic,flC,flC,aqg]
 generalize rpC x=cs at *;refine ao Tryz.func231 Z Z Z <| bu (fun w H=>(H.oat (k:=0) Z).form) ?_;rintro ⟨A',c',hv,q1,q2,q3⟩;cases hv;refine anf <| ae Z <| aby <| apn Z Z <| ay Z <| aby <| apo Z Z Z <| ane <| ac <| anf <| apn Z Z <| ane <| ai Z <| ah <| ab <| anf <| apo Z Z Z <| ane <| ac <| anf <| apo Z Z Z <| ane ?_;by_cases he:l2 = []
 ·subst he;rw [aqg] at *;refine Ab 22 Z Z <| ar Z <| anf <| apn Z Z ?_;refine ef 0 Z Z Z Z Z Z Z Z Z (m:=1) (news:=cs) (fun w H=>(H.blk (k:=1) Z).sl (by rw [xl]) (by decide)) xo (by omega) (fun _=>rfl) fun v2=> ?_;refine ae Z <| ane <| aj <| al ?_;rw [← e1];have e2:l1.length+1=(l1 ++ [x]).length:=by simp
  rw [e2];refine bh Z Z (af 2 [0] Z) ?_
  rfl
 have hl20:0<l2.length:=List.length_pos_iff.2 he;refine vj 22 Z <| ai Z <| ah <| ab <| ac <| anf <| apn Z Z <| ay Z <| apo Z Z Z <| ane ?_;have hpre:(flC rpC (l1++l2)).take (l1.length*3)=flC rpC l1:=by rw [ic,← hl1,arl rfl]
 have hpost:(flC rpC (l1++l2)).drop (l1.length*3)=flC rpC l2:=by rw [ic,← hl1,asf rfl]
 obtain ⟨gA,oA,rfl⟩:=q3 (by omega);by_cases hc:c<(l1++l2).length+1
 ·refine Ad 31 Z <| ar Z <| anf <| apn Z Z <| ay Z <| apn Z Z <| ay Z <| ae Z <| ay Z ?_;refine bn 34 (.slice (some ⟨gA,oA,none⟩) l1.length c) Z (by simp) ?_;refine bn 39 (ii ((l2.length+1:Nat):Int)) Z (by congr 1;omega) ?_;refine rQ (cs:=flC rpC l1) (j:=l1.length) (m:=l2.length+1) (c:=c) Z Z Z Z Z Z Z Z Z (fun w H=>by have:=((H.oat (k:=0) Z).take (k:=l1.length) (by omega)).sl;rwa [hpre] at this) (by omega) (by omega) (by omega) fun gg c2 zs hzs=> ?_;refine b6 (fun w H=>(H.oat (k:=0) Z).form) ?_;rintro ⟨_,_,hv2,p1,p2,_⟩;cases hv2;have hz0:(flC rpC l1++zs).length=(l1.length+l2.length+1)*3:=by rw [aps,hl1,hzs];omega
  refine ae Z <| aby <| apn Z Z <| ay Z <| ae Z ?_;refine bn 43 (.slice (some ⟨gg,l1.length*3,none⟩) (l2.length+1) (c2 - l1.length)) Z (by
   simp only [apu];rw [if_neg (by omega)];simp only [aq5,Addr.add];rw [show l1.length+(l2.length+1) - l1.length=l2.length+1 by omega]
   split <;> simp_all) ?_
  refine r9 0 (l1.length*3) (m:=1) (news:=cs) (cs':=flC rpC l1++cs++zs.drop 3) Z Z Z Z Z Z Z Z Z (by rw [show min 1 (l2.length+1)=1 by omega,aqh (by omega),← hl1,re,xl]) Z (by omega) (fun w H=>(H.blk (k:=2) Z).sl (by rw [xl]) (by decide)) (by rw [hz0];omega) (fun u hu=>xo u (arf hu)) ?_;refine ane <| ac <| cq flo F (by decide +kernel) (af 3 [] Z) <| bj Z Zl <| bj Z Zl <| bj Z Zl <| dx Z Z <| dx Z Z <| bj Z Zl <| bj Z Zl <| dx Z Z ?_;refine eu 50 (.slice (some ⟨gg,(l1.length+1)*3,none⟩) l2.length (c2 - (l1.length+1))) Z (by
   rw [show ((l1.length:Int)+((1:Nat):Int)).toNat=l1.length+1 by omega,if_neg (by omega)];simp only [aq5,Addr.add];rw [show l1.length+(l2.length+1) - (l1.length+1)=l2.length by omega]
   split <;> simp_all) ?_
  refine eu 53 (.slice (if c=l1.length then some ⟨gA,oA,none⟩ else (some (⟨gA,oA,none⟩:Addr)).map (·.add (l1.length*3))) l2.length (c - l1.length)) Z (by
   simp only [apu];rw [show (l1++l2).length - l1.length=l2.length by omega]) ?_
  refine sb 0 ((l1.length+1)*3) (m:=l2.length) (news:=flC rpC l2) (cs':=flC rpC l1++cs++flC rpC l2) Z Z Z Z Z Z Z Z Z Z (by
   rw [Nat.min_self,aqh (by omega),show (l1.length+1)*3=(flC rpC l1++cs).length by rw [aps,hl1,xl];omega,re,aq0 (by rw [aqw,hzs,hl2];omega),aqg]) Z (by omega) (fun w H=>by
   have:=((H.oat (k:=1) Z).drop (k:=l1.length) (by omega)).sl;rwa [hpost,show (l1++l2).length - l1.length=l2.length by omega] at this) (by simp only [aps,aqw,hl1,xl,hzs];omega) (fun u hu=>ho2 u (arf hu)) (af 3 [] Z) ?_
  refine ap <| ab <| anf <| apn Z Z <| ane <| aj <| al ?_;rw [← hfin,show l1.length+(l2.length+1)=(l1++x::l2).length by omega];refine bh Z Z (af 3 [0] Z) ?_
  rfl
 refine vj 31 Z <| ai Z <| ah <| ab <| anf <| apo Z Z Z <| ay Z <| ay Z <| ae Z <| ane <| ac <| anf <| apo Z Z Z <| ae Z <| ay Z <| ay Z ?_;refine bn 0 (.slice (some ⟨gA,oA,none⟩) ((l1++l2).length+1) c) Z (by
  rw [show (((l1++l2).length:Int)+((1:Nat):Int)).toNat=(l1++l2).length+1 by omega]) ?_
 refine mN 0 Z (by omega) (fun _=>rfl) fun zs hzs=> ?_;have hN:(l1++l2).length+1=l1.length+(l2.length+1):=by omega
 have hI:(flC rpC (l1++l2)).length=(l1++l2).length*3:=by rw [ic,aps,hl1,hl2];omega
 have hbase:flC rpC (l1++l2)++zs=flC rpC l1++(flC rpC l2++zs):=by rw [ic,ap0]
 skip
 refine bn 66 (.slice (some ⟨gA,oA+(l1.length+1)*3,none⟩) l2.length (c - (l1.length+1))) Z (by
  rw [show ((l1.length:Int)+((1:Nat):Int)).toNat=l1.length+1 by omega,if_neg (by omega)];simp only [aq5,Addr.add];rw [show (((l1++l2).length:Int)+((1:Nat):Int)).toNat - (l1.length+1)=l2.length by omega]
  split <;> simp_all) ?_
 refine E6 (tS:=jO) (tR:=zi) 1 0 Z Z Z Tryz.func272 (by kernel_rfl) (by kernel_rfl) (by kernel_rfl) (by kernel_rfl) Z Z Z Z Z (by omega) ?_;refine ae Z <| ane <| ar Z <| ac <| cq flo F (by decide +kernel) (af 2 [] Z) <| bj Z Zl <| bj Z Zl <| bj Z Zl <| dx Z Z <| dx Z Z <| bj Z Zl <| bj Z Zl <| dx Z Z ?_;refine eu 73 (.slice (some ⟨gA,oA+(l1.length+1)*3,none⟩) l2.length (c - (l1.length+1))) Z (by
  rw [show ((l1.length:Int)+((1:Nat):Int)).toNat=l1.length+1 by omega,if_neg (by omega)];simp only [aq5,Addr.add];rw [show (l1++l2).length+1 - (l1.length+1)=l2.length by omega]
  split <;> simp_all) ?_
 refine eu 76 (.slice (if c=l1.length then some ⟨gA,oA,none⟩ else (some (⟨gA,oA,none⟩:Addr)).map (·.add (l1.length*3))) (l2.length+1) (c - l1.length)) Z (by
  simp only [apu];rw [show (l1++l2).length+1 - l1.length=l2.length+1 by omega]) ?_
 have hw:(flC rpC l2++zs).length=(l2.length+1)*3:=by rw [aps,hl2,hzs];omega
 refine sb 0 ((l1.length+1)*3) (m:=l2.length+1) (news:=flC rpC l2++zs) (cs':=flC rpC l1++(flC rpC l2++zs).take 3++flC rpC l2) Z Z Z Z Z Z Z Z Z Z (by
  rw [show min (l2.length+1) l2.length=l2.length by omega,arl hl2,hbase];have e1:flC rpC l1++(flC rpC l2++zs)=(flC rpC l1++(flC rpC l2++zs).take 3)++(flC rpC l2++zs).drop 3:=by rw [ap0,aqs]
  rw [e1,show (l1.length+1)*3=(flC rpC l1++(flC rpC l2++zs).take 3).length by rw [aps,ap7,hl1,hw];omega,re,aq0 (by rw [aqw,hw,hl2];omega),aqg]) Z (by omega) (fun w H=>by
  have:=((H.oat (k:=0) Z).drop (k:=l1.length) (by omega)).sl;rwa [hbase,← hl1,asf rfl,hl1,show (l1++l2).length+1 - l1.length=l2.length+1 by omega] at this) (by rw [aps,hI,hzs];omega) (fun u hu=>by
  rw [show min (l2.length+1) l2.length=l2.length by omega,arl hl2] at hu;exact ho2 u hu) (af 2 [] Z) ?_
 refine ap <| ab <| anf <| apn Z Z <| ay Z <| ae Z ?_;refine bn 80 (.slice (some ⟨gA,oA+l1.length*3,none⟩) (l2.length+1) (c - l1.length)) Z (by
  simp only [apu];rw [if_neg (by omega)];simp only [aq5,Addr.add];rw [show (l1++l2).length+1 - l1.length=l2.length+1 by omega]
  split <;> simp_all) ?_
 refine r9 0 (l1.length*3) (m:=1) (news:=cs) (cs':=flC rpC l1++cs++flC rpC l2) Z Z Z Z Z Z Z Z Z (by
  rw [show min 1 (l2.length+1)=1 by omega,aqh (l:=cs) (by omega),← hl1,ap0 (flC rpC l1),re,xl,asf (by rw [ap7,hw];omega)]) Z (by omega) (fun w H=>(H.blk (k:=1) Z).sl (by rw [xl]) (by decide)) (by simp only [aps,ap7,hl1,hl2,hzs];omega) (fun u hu=>xo u (arf hu)) ?_
 refine aby <| apn Z Z <| ane <| aj <| al ?_;rw [← hfin,show (l1++l2).length+1=(l1++x::l2).length by omega];refine bh Z Z (af 2 [0] Z) ?_
 rfl
end
section
variable {b:World} {F:List SP} {l1 l2:List Hd} {x:Hd} {gl c:Nat} {A:Option Addr}
theorem aag (h1:∀ d∈l1,(hdC d).length=34) (h2:∀ d∈l2,(hdC d).length=34) (xl:(hdC x).length=34) (o2:∀ d∈l2,∀ u∈hdC d,u.oneCell'=true) (xo:∀ u∈hdC x,u.oneCell'=true) (hm:(l1++l2).length≤1000000) :
  SC Tryz.prog ql [.slice A (l1++l2).length c,ii l1.length,.slice (some ⟨gl,0,none⟩) 1 1] b (row t_api_Held 34 (.slice A (l1++l2).length c) (l1++l2).length (flC hdC (l1++l2))::pt gl t_api_Held (hdC x)::F) (fun v F'=>F'=row t_api_Held 34 v (l1++x::l2).length (flC hdC (l1++x::l2))::F):=by
 have hl1:(flC hdC l1).length=l1.length*34:=l9 h1;have hl2:(flC hdC l2).length=l2.length*34:=l9 h2;have hn:(l1++l2).length=l1.length+l2.length:=aps;have hfin:flC hdC (l1++x::l2)=flC hdC l1++hdC x++flC hdC l2:=by rw [ic,flC,ap0]
 have hfl:(l1++x::l2).length=l1.length+l2.length+1:=by rw [aps,ap3];omega
 have ho2:∀ u∈flC hdC l2,u.oneCell'=true:=yy o2;have e1:flC hdC (l1 ++ [x])=flC hdC l1++hdC x:=by rw [ic,flC,flC,aqg]
 generalize hdC x=cs at *;refine ao Tryz.func233 Z Z Z <| bu (fun w H=>(H.oat (k:=0) Z).form) ?_;rintro ⟨A',c',hv,q1,q2,q3⟩;cases hv;refine anf <| ae Z <| aby <| apn Z Z <| ay Z <| aby <| apo Z Z Z <| ane <| ac <| anf <| apn Z Z <| ane <| ai Z <| ah <| ab <| anf <| apo Z Z Z <| ane <| ac <| anf <| apo Z Z Z <| ane ?_;by_cases he:l2 = []
 ·subst he;rw [aqg] at *;refine Ab 22 Z Z <| ar Z <| anf <| apn Z Z ?_;refine ef 0 Z Z Z Z Z Z Z Z Z (m:=1) (news:=cs) (fun w H=>(H.blk (k:=1) Z).sl (by rw [xl]) (by decide)) xo (by omega) (fun _=>rfl) fun v2=> ?_;refine ae Z <| ane <| aj <| al ?_;rw [← e1];have e2:l1.length+1=(l1 ++ [x]).length:=by simp
  rw [e2];refine bh Z Z (af 2 [0] Z) ?_
  rfl
 have hl20:0<l2.length:=List.length_pos_iff.2 he;refine vj 22 Z <| ai Z <| ah <| ab <| ac <| anf <| apn Z Z <| ay Z <| apo Z Z Z <| ane ?_;have hpre:(flC hdC (l1++l2)).take (l1.length*34)=flC hdC l1:=by rw [ic,← hl1,arl rfl]
 have hpost:(flC hdC (l1++l2)).drop (l1.length*34)=flC hdC l2:=by rw [ic,← hl1,asf rfl]
 obtain ⟨gA,oA,rfl⟩:=q3 (by omega);by_cases hc:c<(l1++l2).length+1
 ·refine Ad 31 Z <| ar Z <| anf <| apn Z Z <| ay Z <| apn Z Z <| ay Z <| ae Z <| ay Z ?_;refine bn 34 (.slice (some ⟨gA,oA,none⟩) l1.length c) Z (by simp) ?_;refine bn 39 (ii ((l2.length+1:Nat):Int)) Z (by congr 1;omega) ?_;refine rQ (cs:=flC hdC l1) (j:=l1.length) (m:=l2.length+1) (c:=c) Z Z Z Z Z Z Z Z Z (fun w H=>by have:=((H.oat (k:=0) Z).take (k:=l1.length) (by omega)).sl;rwa [hpre] at this) (by omega) (by omega) (by omega) fun gg c2 zs hzs=> ?_;refine b6 (fun w H=>(H.oat (k:=0) Z).form) ?_;rintro ⟨_,_,hv2,p1,p2,_⟩;cases hv2;have hz0:(flC hdC l1++zs).length=(l1.length+l2.length+1)*34:=by rw [aps,hl1,hzs];omega
  refine ae Z <| aby <| apn Z Z <| ay Z <| ae Z ?_;refine bn 43 (.slice (some ⟨gg,l1.length*34,none⟩) (l2.length+1) (c2 - l1.length)) Z (by
   simp only [apu];rw [if_neg (by omega)];simp only [aq5,Addr.add];rw [show l1.length+(l2.length+1) - l1.length=l2.length+1 by omega]
   split <;> simp_all) ?_
  refine r9 0 (l1.length*34) (m:=1) (news:=cs) (cs':=flC hdC l1++cs++zs.drop 34) Z Z Z Z Z Z Z Z Z (by rw [show min 1 (l2.length+1)=1 by omega,aqh (by omega),← hl1,re,xl]) Z (by omega) (fun w H=>(H.blk (k:=2) Z).sl (by rw [xl]) (by decide)) (by rw [hz0];omega) (fun u hu=>xo u (arf hu)) ?_;refine ane <| ac <| cq flo F (by decide +kernel) (af 3 [] Z) <| bj Z Zl <| bj Z Zl <| bj Z Zl <| dx Z Z <| dx Z Z <| bj Z Zl <| bj Z Zl <| dx Z Z ?_;refine eu 50 (.slice (some ⟨gg,(l1.length+1)*34,none⟩) l2.length (c2 - (l1.length+1))) Z (by
   rw [show ((l1.length:Int)+((1:Nat):Int)).toNat=l1.length+1 by omega,if_neg (by omega)];simp only [aq5,Addr.add];rw [show l1.length+(l2.length+1) - (l1.length+1)=l2.length by omega]
   split <;> simp_all) ?_
  refine eu 53 (.slice (if c=l1.length then some ⟨gA,oA,none⟩ else (some (⟨gA,oA,none⟩:Addr)).map (·.add (l1.length*34))) l2.length (c - l1.length)) Z (by
   simp only [apu];rw [show (l1++l2).length - l1.length=l2.length by omega]) ?_
  refine sb 0 ((l1.length+1)*34) (m:=l2.length) (news:=flC hdC l2) (cs':=flC hdC l1++cs++flC hdC l2) Z Z Z Z Z Z Z Z Z Z (by
   rw [Nat.min_self,aqh (by omega),show (l1.length+1)*34=(flC hdC l1++cs).length by rw [aps,hl1,xl];omega,re,aq0 (by rw [aqw,hzs,hl2];omega),aqg]) Z (by omega) (fun w H=>by
   have:=((H.oat (k:=1) Z).drop (k:=l1.length) (by omega)).sl;rwa [hpost,show (l1++l2).length - l1.length=l2.length by omega] at this) (by simp only [aps,aqw,hl1,xl,hzs];omega) (fun u hu=>ho2 u (arf hu)) (af 3 [] Z) ?_
  refine ap <| ab <| anf <| apn Z Z <| ane <| aj <| al ?_;rw [← hfin,show l1.length+(l2.length+1)=(l1++x::l2).length by omega];refine bh Z Z (af 3 [0] Z) ?_
  rfl
 refine vj 31 Z <| ai Z <| ah <| ab <| anf <| apo Z Z Z <| ay Z <| ay Z <| ae Z <| ane <| ac <| anf <| apo Z Z Z <| ae Z <| ay Z <| ay Z ?_;refine bn 0 (.slice (some ⟨gA,oA,none⟩) ((l1++l2).length+1) c) Z (by
  rw [show (((l1++l2).length:Int)+((1:Nat):Int)).toNat=(l1++l2).length+1 by omega]) ?_
 refine mN 0 Z (by omega) (fun _=>rfl) fun zs hzs=> ?_;have hN:(l1++l2).length+1=l1.length+(l2.length+1):=by omega
 have hI:(flC hdC (l1++l2)).length=(l1++l2).length*34:=by rw [ic,aps,hl1,hl2];omega
 have hbase:flC hdC (l1++l2)++zs=flC hdC l1++(flC hdC l2++zs):=by rw [ic,ap0]
 skip
 refine bn 66 (.slice (some ⟨gA,oA+(l1.length+1)*34,none⟩) l2.length (c - (l1.length+1))) Z (by
  rw [show ((l1.length:Int)+((1:Nat):Int)).toNat=l1.length+1 by omega,if_neg (by omega)];simp only [aq5,Addr.add];rw [show (((l1++l2).length:Int)+((1:Nat):Int)).toNat - (l1.length+1)=l2.length by omega]
  split <;> simp_all) ?_
 refine E6 (tS:=n9) (tR:=zi) 1 0 Z Z Z Tryz.func274 (by kernel_rfl) (by kernel_rfl) (by kernel_rfl) (by kernel_rfl) Z Z Z Z Z (by omega) ?_;refine ae Z <| ane <| ar Z <| ac <| cq flo F (by decide +kernel) (af 2 [] Z) <| bj Z Zl <| bj Z Zl <| bj Z Zl <| dx Z Z <| dx Z Z <| bj Z Zl <| bj Z Zl <| dx Z Z ?_;refine eu 73 (.slice (some ⟨gA,oA+(l1.length+1)*34,none⟩) l2.length (c - (l1.length+1))) Z (by
  rw [show ((l1.length:Int)+((1:Nat):Int)).toNat=l1.length+1 by omega,if_neg (by omega)];simp only [aq5,Addr.add];rw [show (l1++l2).length+1 - (l1.length+1)=l2.length by omega]
  split <;> simp_all) ?_
 refine eu 76 (.slice (if c=l1.length then some ⟨gA,oA,none⟩ else (some (⟨gA,oA,none⟩:Addr)).map (·.add (l1.length*34))) (l2.length+1) (c - l1.length)) Z (by
  simp only [apu];rw [show (l1++l2).length+1 - l1.length=l2.length+1 by omega]) ?_
 have hw:(flC hdC l2++zs).length=(l2.length+1)*34:=by rw [aps,hl2,hzs];omega
 refine sb 0 ((l1.length+1)*34) (m:=l2.length+1) (news:=flC hdC l2++zs) (cs':=flC hdC l1++(flC hdC l2++zs).take 34++flC hdC l2) Z Z Z Z Z Z Z Z Z Z (by
  rw [show min (l2.length+1) l2.length=l2.length by omega,arl hl2,hbase];have e1:flC hdC l1++(flC hdC l2++zs)=(flC hdC l1++(flC hdC l2++zs).take 34)++(flC hdC l2++zs).drop 34:=by rw [ap0,aqs]
  rw [e1,show (l1.length+1)*34=(flC hdC l1++(flC hdC l2++zs).take 34).length by rw [aps,ap7,hl1,hw];omega,re,aq0 (by rw [aqw,hw,hl2];omega),aqg]) Z (by omega) (fun w H=>by
  have:=((H.oat (k:=0) Z).drop (k:=l1.length) (by omega)).sl;rwa [hbase,← hl1,asf rfl,hl1,show (l1++l2).length+1 - l1.length=l2.length+1 by omega] at this) (by rw [aps,hI,hzs];omega) (fun u hu=>by
  rw [show min (l2.length+1) l2.length=l2.length by omega,arl hl2] at hu;exact ho2 u hu) (af 2 [] Z) ?_
 refine ap <| ab <| anf <| apn Z Z <| ay Z <| ae Z ?_;refine bn 80 (.slice (some ⟨gA,oA+l1.length*34,none⟩) (l2.length+1) (c - l1.length)) Z (by
  simp only [apu];rw [if_neg (by omega)];simp only [aq5,Addr.add];rw [show (l1++l2).length+1 - l1.length=l2.length+1 by omega]
  split <;> simp_all) ?_
 refine r9 0 (l1.length*34) (m:=1) (news:=cs) (cs':=flC hdC l1++cs++flC hdC l2) Z Z Z Z Z Z Z Z Z (by
  rw [show min 1 (l2.length+1)=1 by omega,aqh (l:=cs) (by omega),← hl1,ap0 (flC hdC l1),re,xl,asf (by rw [ap7,hw];omega)]) Z (by omega) (fun w H=>(H.blk (k:=1) Z).sl (by rw [xl]) (by decide)) (by simp only [aps,ap7,hl1,hl2,hzs];omega) (fun u hu=>xo u (arf hu)) ?_
 refine aby <| apn Z Z <| ane <| aj <| al ?_;rw [← hfin,show (l1++l2).length+1=(l1++x::l2).length by omega];refine bh Z Z (af 2 [0] Z) ?_
 rfl
end

structure K9 where
 repo:ByteArray
 tag:ByteArray
 push:Bool
abbrev spC (s:K9):List Value:= [.string s.repo,.string s.tag,.bool s.push]
theorem Uc {α:Type} {cm:α→α→Int} {D T S1 S2:List α} {x:α} (hp:(S1++S2++x::T).Perm D) (hT:∀ x∈D,∀ y∈D,∀ z∈D,¬ cm y x<0→¬ cm z y<0→¬ cm z x<0) (hA:∀ x∈D,∀ y∈D,cm x y<0→¬ cm y x<0)
  (hs:(S1++S2).Pairwise fun a c=>¬ cm c a<0) (h1:∀ s S',S1=S' ++ [s]→¬ cm x s<0) (h2:∀ t T',S2=t::T'→cm x t<0):(S1++x::S2).Pairwise fun a c=>¬ cm c a<0:=by
 have hm:∀ y,y∈S1∨y∈S2∨y=x→y∈D:=fun y hy=>hp.mem_iff.1 (by rcases hy with hy | hy | rfl <;> simp_all)
 obtain ⟨a,c,d⟩:=arn.1 hs;refine arn.2 ⟨a,aq1.2 ⟨fun t ht=> ?_,c⟩,fun s hs' t ht=> ?_⟩
 ·cases S2 with
  | nil => cases ht
  | cons u S2 =>
   have hu:=hA x (hm x (.inr (.inr Z))) u (hm u (.inr (.inl aqe))) (h2 u S2 Z);rcases ap1.1 ht with rfl | ht'
   ·exact hu
   ·exact hT x (hm x (.inr (.inr Z))) u (hm u (.inr (.inl aqe))) t (hm t (.inr (.inl ht))) hu ((aq1.1 c).1 t ht')
 ·rcases ap1.1 ht with rfl | ht
  ·rcases List.eq_nil_or_concat S1 with rfl | ⟨S',u,rfl⟩
   ·cases hs'
   ·rw [List.concat_eq_append] at *;have hu:=h1 u S' Z;rcases ap6.1 hs' with hs2 | hs2
    ·exact hT s (hm s (.inl hs')) u (hm u (.inl (by simp))) t (hm t (.inr (.inr Z))) ((arn.1 a).2.2 s hs2 u (by simp)) hu
    ·rw [apy.1 hs2];exact hu
  ·exact d s hs' t ht
theorem O7 {n:Nat} (h:n≤1000):IntKind.u64.wrap (n:Int)=n:=by
 have:IntKind.u64.wrap (n:Int)=(n:Int) % 18446744073709551616:=rfl;rw [this];omega
theorem Ud {P:Program} {ro:Option Nat} {N:Nat} {l rest:List Oper} {Q:Exit→Act→World→Prop} {E:List (Nat × Value)} {ds:List Deferred} {b:World} {F:List SP} {x:Int} {u:Value} (i j:Nat) (hj:Go.Eng.kg E j=some u) (hl:Go.Eng.kg E i=some (ii (IntKind.i64.wrap x))) (h:∀ v,I64 v→SO P ro N l rest Q [(j,u),(i,ii v)] ds b F):SO P ro N l rest Q E ds b F :=
 ⟨fun w H a hk hd=>(h (IntKind.i64.wrap x) (by
  have:IntKind.i64.wrap x=(if x % 18446744073709551616≥9223372036854775808 then x % 18446744073709551616 - 18446744073709551616 else x % 18446744073709551616):=by simp [IntKind.wrap,IntKind.signed,IntKind.bits]
  rw [this];unfold I64
  split <;> omega)).1 w H a (hk.sub ⟨hj,hl,trivial⟩) hd⟩
theorem Gj {b:World} {F:List SP} {n:Nat} (h:n≤12):SC Tryz.prog pG [.int .u64 n] b F (fun _ F'=>F'=F):=by
 have h64:SC Tryz.prog kW [.int .u64 n] b F (fun _ F'=>F'=F):=by
  refine ao Tryz.func290 Z Z Z <| anf <| ae Z <| ane <| ac <| anf <| apn Z Z <| ane <| vj 4 Z <| ai Z <| ah <| ab <| ac <| anf <| apn Z Z <| ane <| vj 8 Z <| ai Z <| ah <| ab <| ac <| anf <| apn Z Z <| ane <| vj 14 Z <| ai Z <| ah <| ab <| anf <| apo Z Z Z ?_;refine bn 21 (.int .u8 n) Z (ap2 (Value.int .u8) (show (n:Int) % 256=n by omega)) ?_;refine Yy Z ⟨by omega,Int.lt_of_lt_of_le (b:=256) (by omega) (by decide +kernel)⟩ ?_;refine ae Z <| Ud 23 19 Z Z fun v hv=> ?_;refine Yy Z (by (simp;omega)) ?_;refine ae Z <| ane <| aj <| bh Z Z av ?_
  rfl
 refine ao Tryz.func246 Z Z Z <| anf <| ae Z <| ane <| ac <| ai Z <| ah <| ab <| anf <| ae Z <| am Z Z Z (h64) ?_;rintro u _ ⟨rfl⟩;refine ae Z <| ane <| aj <| bh Z Z av ?_
 rfl
section
variable {b:World} {F:List SP} {A:Option Addr} {c n:Nat} {cm:K9→K9→Int} {f:Nat} [Bodied Tryz.prog f] {D:List K9}
 (hc:∀ x∈D,∀ y∈D,∀ B:List SP,SC Tryz.prog f [.agg ⟨spC x⟩,.agg ⟨spC y⟩] b (B++F) (fun u F'=>u=ii (cm x y)∧F'=B++F)) (hz:∀ d∈D,(spC d).length=3) (ho:∀ d∈D,∀ u∈spC d,u.oneCell'=true)
 (hT:∀ x∈D,∀ y∈D,∀ z∈D,¬ cm y x<0→¬ cm z y<0→¬ cm z x<0) (hA:∀ x∈D,∀ y∈D,cm x y<0→¬ cm y x<0)
include hc hz ho hT hA
end
section
variable {b:World} {F:List SP} {A:Option Addr} {c n:Nat} {cm:Ev→Ev→Int} {f:Nat} [Bodied Tryz.prog f] {D:List Ev}
 (hc:∀ x∈D,∀ y∈D,∀ B:List SP,SC Tryz.prog f [.agg ⟨evC x⟩,.agg ⟨evC y⟩] b (B++F) (fun u F'=>u=ii (cm x y)∧F'=B++F)) (hz:∀ d∈D,(evC d).length=39) (ho:∀ d∈D,∀ u∈evC d,u.oneCell'=true)
 (hT:∀ x∈D,∀ y∈D,∀ z∈D,¬ cm y x<0→¬ cm z y<0→¬ cm z x<0) (hA:∀ x∈D,∀ y∈D,cm x y<0→¬ cm y x<0)
include hc hz ho hT hA
end

structure Dc where
 media:Int
 id:List Int
 size:Int
 plat:ByteArray
structure Mf where
 kind:Int
 title:ByteArray
 cfg0:Dc
 layers:List Dc
 subs:List Dc
def dcZ:Dc:=⟨0,List.replicate 32 0,0,⟨#[]⟩⟩
def Mf.many (m:Mf):List Dc:=m.layers++m.subs
def dcP (d:Dc):List (Bool × List Int):= [mm d.media,pID d.id,mm d.size,ny (dz d.plat)]
def mfQ (m:Mf):List (Bool × List Int):= [mm 77,mm m.kind,ny (dz m.title)]++((if m.kind=3 then dcP m.cfg0 else [])++(mm m.many.length::m.many.flatMap dcP))
def dcB (d:Dc):List Int:=jn d.media++(d.id++(jn d.size++(jn (dz d.plat).length++dz d.plat)))
def mfB (m:Mf):List Int:=jn 77++(jn m.kind++((jn (dz m.title).length++dz m.title)++((if m.kind=3 then dcB m.cfg0 else [])++(jn m.many.length++m.many.flatMap dcB))))
structure DcN (d:Dc):Prop where
 m:0≤d.media∧d.media<9223372036854775808
 id:idOk d.id
 s:0≤d.size∧d.size<9223372036854775808
 p:d.plat.size≤64
theorem Xz (d:Dc):((dcP d).map Prod.snd).flatten=dcB d:=by simp [dcP,dcB,mm,pID,ny]
theorem O8 (l:List Dc):((l.flatMap dcP).map Prod.snd).flatten=l.flatMap dcB:=by
 induction l with
 | nil => rfl
 | cons d l ih => rw [asv, aqa, asy, Xz, ih, asv]
theorem X0 (m:Mf):((mfQ m).map Prod.snd).flatten=mfB m:=by
 unfold mfQ mfB;by_cases h:m.kind=3
 ·rw [if_pos h,if_pos h];simp only [aqa,asy,Xz,O8,aqt,ar4,as9,atc,mm,ny,ap0,arb]
 ·rw [if_neg h,if_neg h];simp only [aqa,asy,O8,aqt,ar4,as9,atc,mm,ny,ap0,arb]
theorem O9 {d:Dc} (h:DcN d):∀ p∈dcP d,p.1=true:=by
 intro p hp;simp only [dcP,ap1,arj,or_false] at hp;rcases hp with rfl | rfl | rfl | rfl
 ·exact ap5 h.m.1
 ·rfl
 ·exact ap5 h.s.1
 ·rfl
theorem aah {m:Mf} (hk:0≤m.kind) (hc:DcN m.cfg0) (hl:∀ d∈m.many,DcN d) (hn:(mfB m).length≤4096):ml 4096 (mfQ m) ⟨[],0⟩=⟨mfB m,0⟩:=by
 have hall:∀ p∈mfQ m,p.1=true:=by
  intro p hp;unfold mfQ at hp;simp only [ap6,ap1,arj,or_false,as3] at hp;rcases hp with (rfl | rfl | rfl) | hp | rfl | ⟨d,hd,hp⟩
  ·rfl
  ·exact ap5 hk
  ·rfl
  ·by_cases h:m.kind=3
   ·rw [if_pos h] at hp;exact O9 hc p hp
   ·rw [if_neg h] at hp;cases hp
  ·show decide (0≤(m.many.length:Int))=true;exact ap5 (Int.natCast_nonneg _)
  ·exact O9 (hl d hd) p hp
 have h1:=Kt (lim:=4096) (s:=⟨[],0⟩) hall Z (by rw [arb,X0];omega);have h2:=Ol h1 (by simp);rw [h2.2.2.1,arb,X0]
def rDc (B:List Int) (s:RS):Dc × RS :=
 let a:=ia B s
 let i:=rID B a.2
 let z:=ia B i.2
 let p:=ng B 4096 z.2
 (⟨a.1,i.1,z.1,strOfNums p.1⟩,p.2)
theorem Pa {B:List Int} {i:Nat} {d:Dc} (h:At B i (dcB d)) (hd:DcN d):rDc B ⟨i,0,0⟩=(d,⟨i+(dcB d).length,0,0⟩):=by
 have hp:(dz d.plat).length≤64:=by rw [lz];exact hd.p
 unfold dcB at h ⊢;obtain ⟨a1,h⟩:=h.app;obtain ⟨a2,h⟩:=h.app;obtain ⟨a3,a4⟩:=h.app;rw [hd.id.1] at a3 a4;unfold rDc;rw [nJ a1 hd.m.1 hd.m.2];dsimp only;rw [alr a2 hd.id.1];dsimp only;rw [nJ a3 hd.s.1 hd.s.2];dsimp only;rw [Ck a4 (by omega) (by omega)];dsimp only;rw [pg];refine Prod.ext Z ?_;simp only [aps,hd.id.1];congr 1;omega
structure MfN (m:Mf):Prop where
 k:m.kind=3∨m.kind=4
 t:m.title.size≤64
 c:DcN m.cfg0
 l:∀ d∈m.many,DcN d
 n:m.many.length≤16
 b:(mfB m).length≤4096
structure MfR (B:List Int) (m:Mf) (t c:Nat) (q:Nat→Nat):Prop where
 n1:ia B ⟨0,0,0⟩=(77,⟨1,0,0⟩)
 n2:ia B ⟨1,0,0⟩=(m.kind,⟨2,0,0⟩)
 ti:ng B 4096 ⟨2,0,0⟩=(dz m.title,⟨t,0,0⟩)
 cf:m.kind=3→rDc B ⟨t,0,0⟩=(m.cfg0,⟨c,0,0⟩)
 ct:m.kind≠3→c=t
 nn:ia B ⟨c,0,0⟩=((m.many.length:Int),⟨q 0,0,0⟩)
 ds:∀ k (h:k<m.many.length),rDc B ⟨q k,0,0⟩=(m.many[k],⟨q (k+1),0,0⟩)
 en:q m.many.length=B.length
 le:2≤B.length∧t≤B.length∧c≤B.length∧∀ k,k≤m.many.length→q k≤B.length
theorem pj {n:Int} (h0:0≤n) (h:n<192):jn n = [n]:=by
 unfold jn;rw [if_pos h,Int.emod_eq_of_lt h0 (by omega)]
theorem Ue {l:List Dc} {k:Nat} (h:k<l.length):l.flatMap dcB=(l.take k).flatMap dcB++(dcB l[k]++(l.drop (k+1)).flatMap dcB):=by
 conv=>lhs;rw [← aqs k l,aqq h]
 rw [arq,asv]
theorem Uf {m:Mf} (h:MfN m):∃ t c q,MfR (mfB m) m t c q:=by
 have hk0:0≤m.kind∧m.kind<192:=by rcases h.k with e | e <;> rw [e] <;> decide
 have hb:=h.b;have hB:mfB m=jn 77++(jn m.kind++((jn (dz m.title).length++dz m.title)++((if m.kind=3 then dcB m.cfg0 else [])++(jn m.many.length++m.many.flatMap dcB)))):=rfl;have h1:At (mfB m) 0 (mfB m):=⟨[],(aqg _).symm⟩;have h1:At (mfB m) 0 (jn 77++(jn m.kind++((jn (dz m.title).length++dz m.title)++((if m.kind=3 then dcB m.cfg0 else [])++(jn m.many.length++m.many.flatMap dcB))))):=h1;generalize mfB m=B at h1 hB hb ⊢;have hlen:=ap2 List.length hB;rw [pj (n:=77) (by decide) (by decide),pj hk0.1 hk0.2] at h1 hlen;obtain ⟨a1,h1⟩:=h1.app;obtain ⟨a2,h1⟩:=h1.app;obtain ⟨a3,h1⟩:=h1.app;obtain ⟨a4,h1⟩:=h1.app;obtain ⟨a5,a6⟩:=h1.app;have htl:(dz m.title).length≤64:=by rw [lz];exact h.t
 have hn:=h.n;have r1:=nJ (fa:=0) (n:=77) (by rw [pj (by decide) (by decide)];exact a1) (by decide) (by decide);have r2:=nJ (fa:=0) (n:=m.kind) (by rw [pj hk0.1 hk0.2];exact a2) hk0.1 (by omega);have r3:=Ck (fa:=0) (most:=4096) a3 (by omega) (by omega);have r5:=nJ (fa:=0) a5 (by omega) (by omega);rw [pj (by decide) (by decide)] at r1;rw [pj hk0.1 hk0.2] at r2;simp only [arv,aqy] at r1 r2 r3 r5 a3 a4 a5 a6;have hq:∀ k (hk:k<m.many.length),rDc B ⟨1+1+(jn (dz m.title).length++dz m.title).length+(if m.kind=3 then dcB m.cfg0 else []).length+(jn (m.many.length:Int)).length+((m.many.take k).flatMap dcB).length,0,0⟩=(m.many[k],⟨1+1+(jn (dz m.title).length++dz m.title).length+(if m.kind=3 then dcB m.cfg0 else []).length+(jn (m.many.length:Int)).length+((m.many.take (k+1)).flatMap dcB).length,0,0⟩):=fun k hk=>by
  have a7:=a6;rw [Ue hk] at a7;obtain ⟨_,a8⟩:=a7.app;obtain ⟨a9,_⟩:=a8.app;rw [Pa a9 (h.l _ (apw hk)),apz hk,arq,asv,List.flatMap_nil,aqg];simp only [aps,ar9]
 have hmono:∀ k,((m.many.take k).flatMap dcB).length≤(m.many.flatMap dcB).length:=fun k=>by
  conv=>rhs;rw [← aqs k m.many,arq,aps]
  omega
 simp only [aps,arv] at hlen;refine ⟨_,1+1+(jn (dz m.title).length++dz m.title).length+(if m.kind=3 then dcB m.cfg0 else []).length,fun k=>1+1+(jn (dz m.title).length++dz m.title).length+(if m.kind=3 then dcB m.cfg0 else []).length+(jn (m.many.length:Int)).length+((m.many.take k).flatMap dcB).length,r1,r2,r3,fun hk=> ?_,fun hk=> ?_,?_,hq,?_,?_⟩
 ·rw [if_pos hk] at a4 ⊢;exact Pa a4 h.c
 ·rw [if_neg hk];rfl
 ·rw [r5,ar1];rfl
 ·rw [aqk];simp only [aps];omega
 ·simp only [aps];refine ⟨by omega,by omega,by omega,fun k _=> ?_⟩;have:=hmono k;omega

structure DcS (d:Dc):Prop where
 m:0≤d.media∧d.media<192
 id:idOk d.id
 s:0≤d.size∧d.size<192
 p:d.plat=⟨#[]⟩
theorem DcS.n {d:Dc} (h:DcS d):DcN d:=⟨⟨h.m.1,by have:=h.m.2;omega⟩,h.id,⟨h.s.1,by have:=h.s.2;omega⟩,by rw [h.p];decide⟩
theorem DcS.len {d:Dc} (h:DcS d):(dcB d).length=35:=by
 unfold dcB;simp only [aps,pj h.m.1 h.m.2,pj h.s.1 h.s.2,h.id.1,h.p]
 rfl
theorem DcS.lens {l:List Dc} (h:∀ d∈l,DcS d):(l.flatMap dcB).length=35*l.length:=by
 induction l with
 | nil => rfl
 | cons d l ih =>
  rw [asv,aps,(h d (.head _)).len,ih fun e he=>h e (.tail _ he),ap3];omega
def tT:ByteArray:=⟨#[116]⟩
def Pb:ByteArray:=⟨#[108,105,110,117,120,47,97,109,100,54,52]⟩
def nN (c:Dc) (l:List Dc):Mf:=⟨3,tT,c,l,[]⟩
def pQ (s:Dc):Mf:=⟨4,⟨#[]⟩,dcZ,[],[s]⟩
theorem Il {c:Dc} {l:List Dc} (hc:DcS c) (hl:∀ d∈l,DcS d) (hn:l.length≤8):(mfB (nN c l)).length=40+35*l.length:=by
 have h0:(nN c l).many=l:=aqg l;unfold mfB;rw [h0,show (nN c l).kind=3 from rfl,if_pos rfl,show (nN c l).cfg0=c from rfl,show (nN c l).title=tT from rfl];simp only [aps,hc.len,DcS.lens hl,pj (n:=(l.length:Int)) (by omega) (by omega),arv];rw [pj (n:=77) (by decide) (by decide),pj (n:=3) (by decide) (by decide)];show 1+(1+(1+1+(35+(1+35*l.length))))=_;omega
theorem al7 {c:Dc} {l:List Dc} (hc:DcS c) (hl:∀ d∈l,DcS d) (hn:l.length≤8):MfN (nN c l):=by
 have h0:(nN c l).many=l:=aqg l;refine ⟨.inl rfl,(show tT.size≤64 by decide),hc.n,fun d hd=>(hl d (h0▸hd)).n,?_,?_⟩
 ·rw [h0];omega
 ·rw [Il hc hl hn];omega
theorem aai:DcN dcZ:=⟨by decide,⟨rfl,fun x hx=>by rw [asr hx];rfl⟩,by decide,by decide⟩
theorem Pc {s:Dc} (h:DcN s):MfN (pQ s):=by
 refine ⟨.inr rfl,(show (⟨#[]⟩:ByteArray).size≤64 by decide),aai,fun d hd=> ?_,(show [s].length≤16 by simp),?_⟩
 ·rcases apy.1 (show d∈ [s] from hd) with rfl;exact h
 ·have hp:(dz s.plat).length≤64:=by rw [lz];exact h.p
  show (jn 77++(jn 4++((jn (dz ⟨#[]⟩).length++dz ⟨#[]⟩)++([]++(jn ([s].length:Nat) ++ [s].flatMap dcB))))).length≤4096;have a1:=kp 77;have a2:=kp 4;have a3:=kp ((dz ⟨#[]⟩).length:Int);have a4:=kp ([s].length:Nat);have a5:=kp s.media;have a6:=kp s.size;have a7:=kp ((dz s.plat).length:Int);have a8:(dz ⟨#[]⟩).length=0:=rfl;simp only [aps,asv,List.flatMap_nil,aqg,aro,dcB,h.id.1];omega

def jW (a:List Int) (l:List (List Int)):List (List Int):=if a∈l then l else l ++ [a]
theorem lO {a x:List Int} {l:List (List Int)}:x∈jW a l↔x∈l∨x=a:=by
 unfold jW;by_cases h:a∈l
 ·rw [if_pos h];exact ⟨.inl,fun e=>e.elim id fun e=>e▸h⟩
 ·rw [if_neg h];simp
theorem tW {a:List Int} {l:List (List Int)} (h:l.Nodup):(jW a l).Nodup:=by
 unfold jW;by_cases ha:a∈l
 ·rw [if_pos ha];exact h
 ·rw [if_neg ha];refine atk.2 ⟨h,by simp,fun x hx y hy=> ?_⟩;rw [apy.1 hy];exact fun e=>ha (e▸hx)
def jw {α:Type} (l:List (α × Value)):List α:=l.map Prod.fst
theorem fO (a:List Int) (v:Value) (l:List (List Int × Value)):jw (lq a v l)=jW a (jw l):=by
 induction l with
 | nil => rfl
 | cons x l ih =>
  unfold lq;by_cases h:x.1=a
  ·rw [if_pos h];unfold jW jw;rw [if_pos (ap8.2 ⟨x,.head _,h⟩),aqt,aqt,h]
  ·rw [if_neg h];show x.1::jw (lq a v l)=jW a (x.1::jw l);rw [ih];unfold jW;by_cases h2:a∈jw l
   ·rw [if_pos h2,if_pos (.tail _ h2)]
   ·rw [if_neg h2,if_neg fun e=>(ap1.1 e).elim (fun e=>h e.symm) h2];rfl
theorem yZ {a:List Int} {l:List (List Int × Value)}:(jl a l).isSome=decide (a∈jw l):=by
 induction l with
 | nil => rfl
 | cons x l ih =>
  unfold jl;by_cases h:x.1=a
  ·rw [if_pos h];exact (ap5 (h▸aqe)).symm
  ·rw [if_neg h,ih];refine ash.2 ?_;show _↔a∈x.1::jw l;exact ⟨.tail _,fun e=>(ap1.1 e).elim (fun e=>absurd e.symm h) id⟩
def zn (l S:List (List Int)):List (List Int):=l.foldl (fun S a=>jW a S) S
theorem tY {x:List Int}:∀ {l S:List (List Int)},x∈zn l S↔x∈S∨x∈l
 | [], S => by simp [zn]
 | a :: l, S => by
  show x∈zn l (jW a S)↔_;rw [tY,lO,ap1,or_assoc]
theorem lP:∀ {l S:List (List Int)},S.Nodup→(zn l S).Nodup
 | [], _, h => h
 | _ :: l, _, h => lP (l := l) (tW h)
theorem tZ:∀ {l S:List (List Int)},(zn l S).length≤S.length+l.length
 | [], S => by simp [zn]
 | a :: l, S => by
  have h:=tZ (l:=l) (S:=jW a S);have h2:(jW a S).length≤S.length+1:=by
   unfold jW
   split
   ·omega
   ·simp
  show (zn l (jW a S)).length≤_;rw [ap3];omega
theorem Im {r:List Int→List Int→Prop}:∀ {A B:List (List Int)},A.Pairwise r→B.Pairwise r→A.Nodup→B.Nodup→(∀ x,x∈A↔x∈B)→(∀ x∈A,∀ y∈A,r x y→r y x→x=y)→A=B
 | [], [], _, _, _, _, _, _ => rfl
 | [], b :: B, _, _, _, _, hm, _ => absurd ((hm b).2 (.head _)) (by simp)
 | a :: A, [], _, _, _, _, hm, _ => absurd ((hm a).1 (.head _)) (by simp)
 | a :: A, b :: B, hA, hB, nA, nB, hm, anti => by
  have hA1:=aq1.1 hA;have hB1:=aq1.1 hB;have nA1:=asb.1 nA;have nB1:=asb.1 nB;have hab:a=b:=by
   rcases ap1.1 ((hm a).1 (.head _)) with e | e
   ·exact e
   rcases ap1.1 ((hm b).2 (.head _)) with e2 | e2
   ·exact e2.symm
   exact anti a (.head _) b (.tail _ e2) (hA1.1 b e2) (hB1.1 a e)
  subst hab;rw [Im hA1.2 hB1.2 nA1.2 nB1.2 (fun x=> ?_) fun x hx y hy=>anti x (.tail _ hx) y (.tail _ hy)];refine ⟨fun h=>(ap1.1 ((hm x).1 (.tail _ h))).elim (fun e=>absurd (e▸h) nA1.1) id,fun h=>(ap1.1 ((hm x).2 (.tail _ h))).elim (fun e=>absurd (e▸h) nB1.1) id⟩

def dcC (d:Dc):List Value:= [ii d.media]++(u8s d.id ++ [ii d.size,.string d.plat])
theorem d8 {d:Dc} (h:d.id.length=32):(dcC d).length=35:=by simp [dcC,bz,h]
theorem Ct {α:Type} [DecidableEq α] {a c:α} {v:Value}:∀ {l:List (α × Value)},jl c (lq a v l)=if a=c then some v else jl c l
 | [] => by
  show (if a=c then some v else none)=_
  rfl
 | x :: l => by
  unfold lq;by_cases h:x.1=a
  ·rw [if_pos h];show (if a=c then some v else jl c l)=if a=c then some v else if x.1=c then some x.2 else jl c l
   by_cases h2:a=c
   ·rw [if_pos h2,if_pos h2]
   ·rw [if_neg h2,if_neg h2,if_neg (by rw [h];exact h2)]
  ·rw [if_neg h];show (if x.1=c then some x.2 else jl c (lq a v l))=if a=c then some v else if x.1=c then some x.2 else jl c l
   rw [Ct];by_cases h2:x.1=c
   ·rw [if_pos h2,if_pos h2,if_neg fun e=>h (h2.trans e.symm)]
   ·rw [if_neg h2,if_neg h2]
def byM {α:Type} [DecidableEq α] (f:Dc→α) (l:List Dc):List (α × Value):=l.foldl (fun M d=>lq (f d) (.agg ⟨dcC d⟩) M) []
theorem uA {α:Type} [DecidableEq α] (f:Dc→α) (l:List Dc) (d:Dc):byM f (l ++ [d])=lq (f d) (.agg ⟨dcC d⟩) (byM f l):=by
 unfold byM;rw [List.foldl_append];rfl
theorem In {α:Type} [DecidableEq α] {f:Dc→α} {a:α} {v:Value}:∀ {l:List Dc},jl a (byM f l.reverse)=some v→∃ d∈l,f d=a∧v = .agg ⟨dcC d⟩
 | [], h => by cases h
 | d :: l, h => by
  rw [List.reverse_cons,uA,Ct] at h;by_cases e:f d=a
  ·rw [if_pos e] at h;exact ⟨d,.head _,e,(arw h).symm⟩
  ·rw [if_neg e] at h;obtain ⟨x,hx,h1⟩:=In h;exact ⟨x,.tail _ hx,h1⟩
theorem Io {α:Type} [DecidableEq α] {f:Dc→α} {a:α} {v:Value} {l:List Dc} (h:jl a (byM f l)=some v):∃ d∈l,f d=a∧v = .agg ⟨dcC d⟩:=by
 rw [← List.reverse_reverse l] at h;obtain ⟨d,hd,h1⟩:=In h;exact ⟨d,List.mem_reverse.1 hd,h1⟩
structure fP (w:Int) (c:Dc) (l:List Dc):Prop where
 cS:DcS c
 cm:c.media=1
 lS:∀ d∈l,DcS d
 lm:∀ d∈l,d.media=2
 n:l.length≤8
 has:∀ d∈c::l,Ft d.id w=true
 out:∀ d∈l,d.id≠c.id
 one:∀ d∈l,∀ e∈l,d.id=e.id→d.size=e.size
theorem fP.all {w:Int} {c:Dc} {l:List Dc} (h:fP w c l):∀ d∈c::l,DcS d:=fun d hd=>(ap1.1 hd).elim (fun e=>e▸h.cS) (h.lS d)
theorem fP.same {w:Int} {c:Dc} {l:List Dc} (h:fP w c l) {d e:Dc} (hd:d∈c::l) (he:e∈c::l) (hi:d.id=e.id):d.media=e.media∧d.size=e.size:=by
 rcases ap1.1 hd with rfl | hd <;> rcases ap1.1 he with rfl | he
 ·exact ⟨rfl,rfl⟩
 ·exact absurd hi.symm (h.out _ ‹_›)
 ·exact absurd hi (h.out _ ‹_›)
 ·exact ⟨(h.lm d hd).trans (h.lm e he).symm,h.one d hd e he hi⟩
theorem fP.single {w:Int} {c:Dc} {l:List Dc} (h:fP w c l) {k:Nat} (hk:k<(c::l).length) {v:Value} (hg:jl ((c::l)[k]).id (byM Dc.id ((c::l).take k))=some v):∃ d,v = .agg ⟨dcC d⟩∧d.id.length=32∧d.media=((c::l)[k]).media∧d.size=((c::l)[k]).size:=by
 obtain ⟨d,hd,hi,rfl⟩:=Io hg;have hd:=arf hd;exact ⟨d,rfl,(h.all d hd).id.1,h.same hd (apw hk) hi⟩

section
variable {b:World} {F:List SP} {p:(List Int)→Bool} {f:Nat} [Bodied Tryz.prog f] {pre post:List Value} {D:List (List Int)} {va:Value}
 (hc:∀ d∈D,∀ B:List SP,SC Tryz.prog f (pre++([.agg ⟨u8s d⟩]++post)) b (B++F) (fun u F'=>u = .bool (p d)∧F'=B++F)) (hz:∀ d∈D,(u8s d).length=32)
include hc hz
theorem al8 (ha:∀ w,Sat b F w→SL w 32 va D.length (flC u8s D)) (hn:D.length≤100000) :
  SC Tryz.prog qw [va,.func (.func f) ⟨pre⟩ ⟨post⟩] b F (fun u F'=>(∃ P T,D=P++T∧(∀ e∈P,p e=false)∧(∀ t T',T=t::T'→p t=true)∧u=ii (if T = [] then -1 else (P.length:Int)))∧F'=F):=by
 refine ao Tryz.func204 Z Z Z <| bu (fun w H=>ci (ha w H)) ?_;rintro ⟨A,c,rfl,_,_,_,h4,_⟩;refine anf <| ae Z <| ane <| ac <| anf <| apo Z Z Z <| ane <| ak ?_;refine d6 (S:=Nat) (fun i=> [(0,.slice A D.length c),(1,.func (.func f) ⟨pre⟩ ⟨post⟩),(7,ii D.length),(8,ii i)]) (fun _=>F) (fun i=>i≤D.length∧∀ e∈D.take i,p e=false) (fun i=>D.length - i) 0 av ⟨aqc _,fun e he=>by simp at he⟩ ?_;rintro i ⟨hi,hP⟩;refine anf <| ae Z <| ane <| ac ?_;refine cj Z (fun h1=> ?_) (fun h1=> ?_)
 ·have h1':i<D.length:=by omega
  obtain ⟨gg,oo,rfl⟩:=h4 (by omega);have ca:∀ w,Sat b F w→∀ j,j<32→w.cell? ⟨gg,oo+i*32+j,none⟩=(u8s D[i])[j]?:=fun w H j hj=>ej (ha w H) hz h1' hj
  have hcy:=hc _ (apw h1');have hyl:=hz _ (apw h1');have hsn:D.take (i+1)=D.take i ++ [D[i]]:=apz h1';have hdr:D.drop i=D[i]::D.drop (i+1):=aqq h1';generalize hy:D[i]=y at *;generalize u8s y=cs at *;refine ah <| ab <| ac <| ak <| anf <| apn Z Z <| aby <| apo Z Z Z <| ay Z ?_;refine fc Z (fun w H=>di (cs:=cs) Z Z Z hyl (fun j hj=>by rw [b5,apu];exact ca w H j (by rw [hyl] at hj;exact hj))) Z ?_;refine au Z Z Z (hcy []) <| ane ?_;refine w9 Z (fun q=> ?_) (fun q=> ?_)
  ·refine anf <| apn Z Z <| ane <| aj <| az <| al <| du <| az <| al <| bh Z Z av ?_;refine ⟨⟨D.take i,D.drop i,(aqs i D).symm,hP,fun t T' h=> ?_,?_⟩,rfl⟩
   ·rw [hdr] at h;cases h;exact q
   ·rw [hdr,if_neg (by simp),ap7,asx hi];rfl
  ·refine ah <| bg <| ab <| aa <| ay Z <| ae Z <| ad <| dj (i+1) av ⟨h1',fun e he=> ?_⟩;rw [hsn] at he;rcases ap6.1 he with he | he
   ·exact hP e he
   ·rw [apy.1 he];exact q
 ·obtain rfl:i=D.length:=by omega
  rw [aqk] at hP;refine b8 <| aw <| ax <| aq <| ab <| anf <| ae Z <| ane <| aj <| bh Z Z av ?_;exact ⟨⟨D,[],by simp,hP,(fun t T' h=>by cases h),rfl⟩,rfl⟩
theorem al9 {A:Option Addr} {c:Nat} (ho:∀ d∈D,∀ u∈u8s d,u.oneCell'=true) (hn:D.length≤100000) :
  SC Tryz.prog qi [.slice A D.length c,.func (.func f) ⟨pre⟩ ⟨post⟩] b (row t_api_ID 32 (.slice A D.length c) D.length (flC u8s D)::F) (fun u F'=>u = .slice A (D.filter fun e=> !p e).length c∧F'=row t_api_ID 32 (.slice A (D.filter fun e=> !p e).length c) (D.filter fun e=> !p e).length (flC u8s (D.filter fun e=> !p e))::F):=by
 have hc2:∀ (C:List SP),∀ d∈D,∀ B:List SP,SC Tryz.prog f (pre++([.agg ⟨u8s d⟩]++post)) b (B++(C++F)) (fun u F'=>u = .bool (p d)∧F'=B++(C++F)):=fun C d hd B=>by
  have h:=hc d hd (B++C);rw [ap0] at h;exact h
 refine ao Tryz.func129 Z Z Z <| anf <| ae Z <| aby <| apn Z Z <| am Z Z Z (al8 (hc2 [_]) hz (fun w H=>(H.oat (k:=0) Z).sl) hn) ?_;rintro _ _ ⟨⟨P,T,hPT,hP,hT,rfl⟩,rfl⟩;have hfP:P.filter (fun e=> !p e)=P:=aq9.2 fun e he=>by rw [hP e he];rfl
 cases T with
 | nil =>
  rw [if_pos rfl];rw [aqg] at hPT;subst hPT;rw [hfP];refine ae Z <| ane <| ac <| anf <| apn Z Z <| ane <| ar Z <| anf <| apn Z Z <| ane <| aj <| al <| bh Z Z av ?_;exact ⟨rfl,rfl⟩
 | cons t T =>
 rw [if_neg (by simp)];have ht:=hT t T Z;have hl:D.length=P.length+(T.length+1):=by rw [hPT,aps,ap3]
 refine b6 (fun w H=>(H.oat (k:=0) Z).form) ?_;rintro ⟨A',c',hv,hnc,_,q3⟩;cases hv;obtain ⟨gg,oo,rfl⟩:=q3 (by omega);refine ae Z <| ane <| ac <| anf <| apn Z Z <| ane <| ai Z <| ah <| ab <| ac <| anf <| ae Z <| ay Z <| ae Z <| ane <| ak ?_;rw [show (P.length:Int)+1=((P.length+1:Nat):Int) by omega];have hti:D.take (P.length+1)=P ++ [t]:=by
  rw [hPT,atr,aqh (by omega),arp];rfl
 refine d6 (S:=Nat × Nat × List (List Int)) (fun s=> [(0,.slice (some ⟨gg,oo,none⟩) D.length c),(1,.func (.func f) ⟨pre⟩ ⟨post⟩),(5,ii s.1),(6,ii s.2.1)]) (fun s=>row t_api_ID 32 (.slice (some ⟨gg,oo,none⟩) D.length c) D.length (flC u8s s.2.2)::F)
  (fun s=>s.1<s.2.1∧s.2.1≤D.length∧s.2.2.length=D.length∧s.2.2.take s.1=(D.take s.2.1).filter (fun e=> !p e)∧s.2.2.drop s.2.1=D.drop s.2.1∧∀ d∈s.2.2,d∈D) (fun s=>D.length - s.2.1) (P.length,P.length+1,D) av ⟨by dsimp only;omega,by dsimp only;omega,rfl,?_,rfl,fun _ h=>h⟩ ?_
 ·dsimp only;rw [hti,ari,hfP,ard,ht,hPT,aru (by omega),aqk];simp
 rintro ⟨i,j,X⟩ ⟨hij,hj,hX,hXt,hXd,hXm⟩;dsimp only at hij hj hX hXt hXd hXm ⊢;have hXz:∀ d∈X,(u8s d).length=32:=fun d hd=>hz d (hXm d hd)
 refine ac <| anf <| apo Z Z Z <| ae Z <| ane ?_;refine cj Z (fun h1=> ?_) (fun h1=> ?_)
 ·have h1':j<D.length:=by omega
  have hx:X[j]? = some D[j]:=by
   have:=ap2 (·[0]?) hXd;simpa [arc,h1'] using this
  have hsn:D.take (j+1)=D.take j ++ [D[j]]:=apz h1';have fx:((flC u8s X).drop (j*32)).take 32=u8s D[j]:=by
   obtain ⟨hjX,hxe⟩:=ap4.1 hx;rw [← hxe];exact gJ hXz hjX
  have hym:=apw h1';have hcy:=hc _ hym;have hyl:=hz _ hym;have hyo:=ho _ hym;have hw:=gK (f:=u8s) (x:=D[j]) hXz hyl (i:=i) (by omega);have hXd2:X.drop (j+1)=D.drop (j+1):=by
   have:=ap2 List.tail hXd;simpa [List.tail_drop] using this
  generalize hy:D[j]=y at *;have hel:=l9 hXz;rw [hX] at hel;obtain ⟨e1,e2⟩:=k5 (X:=X) (y:=y) hij (by omega);generalize u8s y=cs at *;refine ah <| ab <| ac <| ak <| anf <| apn Z Z <| ay Z ?_;refine kH 0 (j*32) Z Z Z Z Z Z Z (by rw [b5,apu]) (by omega) fx (by rw [hyl];rfl) ?_;refine bq Z Z Z Z Z fun g7=> ?_;refine eh 0 Z Z Z Z Z Z Z hyl hyo (by rw [hyl];rfl) ?_;refine aby <| ae Z ?_;refine b7 0 Z Z Z Z Z Z (cp (by rw [hyl];rfl)) Z ?_;refine au Z Z Z (hcy [pt g7 t_api_ID cs,row t_api_ID 32 (.slice (some ⟨gg,oo,none⟩) D.length c) D.length (flC u8s X)]) <| ae Z <| ane ?_;refine w9 Z (fun q=> ?_) (fun q=> ?_)
  ·have q':p y=false:=by simpa using q
   refine anf <| apn Z Z ?_;refine b7 0 Z Z Z Z Z Z (cp (by rw [hyl];rfl)) Z ?_;refine ay Z ?_;refine zt 1 (i*32) Z Z Z Z Z Z (by rw [hyl];rfl) Z hw Z (by rw [b5,apu]) (by rw [hel,hyl];omega) hyo ?_;refine ane <| aa <| ae Z <| ay Z <| ae Z <| ad <| bg <| ab <| aa <| ae Z <| ay Z <| ae Z <| ad ?_;rw [show (i:Int)+1=((i+1:Nat):Int) by omega,show (j:Int)+1=((j+1:Nat):Int) by omega];refine dj (i+1,j+1,X.set i y) (af 2 [1] Z) ⟨by dsimp only;omega,h1',by rw [asw];exact hX,?_,?_,fun d hd=> ?_⟩
   ·dsimp only;rw [e1,hXt,hsn,ari,ard,q'];rfl
   ·dsimp only;rw [← hXd2];exact (k5 (X:=X) (y:=y) (j:=j+1) (by omega) (by omega)).2
   ·rcases asc hd with h | h
    ·exact hXm d h
    ·rw [h];exact hym
  ·have q':p y=true:=by simpa using q
   refine ah <| bg <| ab <| aa <| ae Z <| ay Z <| ae Z <| ad ?_;rw [show (j:Int)+1=((j+1:Nat):Int) by omega];refine dj (i,j+1,X) (af 2 [1] Z) ⟨by dsimp only;omega,h1',hX,?_,hXd2,hXm⟩;dsimp only;rw [hXt,hsn,ari,ard,q'];simp
 ·obtain rfl:j=D.length:=by omega
  rw [aqk] at hXt;have hil:i=(D.filter fun e=> !p e).length:=by
   have:=ap2 List.length hXt;rw [ap7] at this;omega
  have e9:=gO hXz i;rw [hXt] at e9;have hi1:((i:Int)).toNat=i:=apu i;refine b8 <| aw <| ax <| aq <| ab <| anf <| apn Z Z <| ay Z ?_;refine bn 38 (.slice (if c=i then some ⟨gg,oo,none⟩ else (some (⟨gg,oo,none⟩:Addr)).map (·.add (i*32))) (D.length - i) (c - i)) Z (by rw [hi1]) ?_;refine yu 0 Z Z Z Z Z Z Z Z Z Z (fun h=>by
   rw [if_neg (by omega)];simp only [aq5,Addr.add,apx]
   split <;> simp_all) (by omega) ?_
  rw [e9];refine aby <| apn Z Z <| ay Z <| ae Z <| ane <| aj <| bh Z Z av ?_;rw [← hil];exact ⟨rfl,rfl⟩
end
section
variable {b:World} {F:List SP} {A:Option Addr} {c n:Nat} {cm:(List Int)→(List Int)→Int} {f:Nat} [Bodied Tryz.prog f] {D:List (List Int)}
 (hc:∀ x∈D,∀ y∈D,∀ B:List SP,SC Tryz.prog f [.agg ⟨u8s x⟩,.agg ⟨u8s y⟩] b (B++F) (fun u F'=>u=ii (cm x y)∧F'=B++F)) (hz:∀ d∈D,(u8s d).length=32) (ho:∀ d∈D,∀ u∈u8s d,u.oneCell'=true)
 (hT:∀ x∈D,∀ y∈D,∀ z∈D,¬ cm y x<0→¬ cm z y<0→¬ cm z x<0) (hA:∀ x∈D,∀ y∈D,cm x y<0→¬ cm y x<0)
include hc hz ho hT hA
theorem ama (hn:D.length=n) (hm:n≤100000):SC Tryz.prog km [.slice A n c,ii 0,ii n,.func (.func f) ⟨[]⟩ ⟨[]⟩] b (row t_api_ID 32 (.slice A n c) n (flC u8s D)::F) (fun _ F'=>∃ M,M.Perm D∧(M.Pairwise fun a c=>¬ cm c a<0)∧F'=row t_api_ID 32 (.slice A n c) n (flC u8s M)::F):=by
 refine ao Tryz.func281 Z Z Z <| bu (fun w H=>(H.oat (k:=0) Z).form) ?_;rintro ⟨A',c',hv,k1,k2,k3⟩;cases hv;refine anf <| ae Z <| ay Z <| ae Z <| ane <| ak ?_;cases hD:D with
 | nil =>
  subst hD;obtain rfl:n=0:=hn.symm;refine d6 (S:=Unit) (fun _=> [(0,.slice A 0 c),(1,ii 0),(2,ii 0),(3,.func (.func f) ⟨[]⟩ ⟨[]⟩),(8,ii 1)]) (fun _=>row t_api_ID 32 (.slice A 0 c) 0 (flC u8s [])::F) (fun _=>True) (fun _=>0) () av trivial ?_;intro _ _;refine ac <| anf <| apo Z Z Z <| ane <| ai Z <| b8 <| aw <| ax <| aq <| io Z .nil av ?_;exact ⟨[],List.Perm.refl _,List.Pairwise.nil,rfl⟩
 | cons x0 L0 =>
 rw [← hD];have hn0:L0.length+1=n:=by rw [← hn,hD,ap3]
 refine d6 (S:=Nat × List (List Int) × List (List Int)) (fun s=> [(0,.slice A n c),(1,ii 0),(2,ii n),(3,.func (.func f) ⟨[]⟩ ⟨[]⟩),(8,ii s.1)]) (fun s=>row t_api_ID 32 (.slice A n c) n (flC u8s (s.2.1++s.2.2))::F)
  (fun s=>(s.2.1++s.2.2).Perm D∧(s.2.1.Pairwise fun a c=>¬ cm c a<0)∧s.2.1.length=s.1) (fun s=>s.2.2.length) (1,[x0],L0) (by rw [hD];exact Ent.refl _)
  ⟨by rw [hD];exact List.Perm.refl _,ar8 _ _,rfl⟩ ?_
 rintro ⟨i,M,T⟩ ⟨hp,hs,hi⟩;dsimp only at hp hs hi ⊢;have hlen:=hp.length_eq;rw [aps,hn] at hlen;refine ac <| anf <| apo Z Z Z <| ane ?_;refine cj Z (fun h1=> ?_) (fun h1=> ?_)
 ·cases T with
  | nil => rw [aro] at hlen; omega
  | cons x T =>
  rw [ap3] at hlen;refine ah <| ab <| ac <| ak <| anf <| apn Z Z <| ane <| ak ?_;refine d6 (S:=Nat × List (List Int) × List (List Int)) (fun s=> [(0,.slice A n c),(1,ii 0),(2,ii n),(3,.func (.func f) ⟨[]⟩ ⟨[]⟩),(8,ii i),(9,ii s.1)]) (fun s=>row t_api_ID 32 (.slice A n c) n (flC u8s (s.2.1++(x::(s.2.2++T))))::F)
   (fun s=>M=s.2.1++s.2.2∧s.2.1.length=s.1∧∀ t T'',s.2.2=t::T''→cm x t<0) (fun s=>s.2.1.length) (i,M,[]) av ⟨by simp,hi,fun t T'' h=>by cases h⟩ ?_
  rintro ⟨j,S1,S2⟩ ⟨rfl,hj,hlt⟩;dsimp only at hj hlt ⊢;have hpD:(S1++(x::(S2++T))).Perm D:=((aqz.trans (List.Perm.of_eq (by simp))).trans aqz.symm).trans hp;have hall:∀ d∈S1++(x::(S2++T)),d∈D:=fun d hd=>hpD.mem_iff.1 hd
  have hzX:∀ d∈S1++(x::(S2++T)),(u8s d).length=32:=fun d hd=>hz d (hall d hd)
  have hxm:x∈D:=hall x (by simp);have hlenD:=hpD.length_eq;rw [hn] at hlenD;have hjn:j<(S1++(x::(S2++T))).length:=by simp;omega
  have hax:(S1++(x::(S2++T)))[j]'hjn=x:=by simp [← hj]
  obtain ⟨gg,oo,rfl⟩:=k3 (by omega);have fx:=gJ hzX hjn;rw [hax] at fx;have xl:=hz x hxm;have hst:=Uc (S1:=S1) (S2:=S2) hp hT hA hs;rcases List.eq_nil_or_concat S1 with rfl | ⟨S1',s,rfl⟩
  ·have hja:j=0:=by simpa using hj.symm
   subst hja;refine qb av <| ac <| ac <| cq flo _ (by decide +kernel) av ?_
   (iterate 14 refine bj Z Zl ?_)
   refine bj Z (.inr Z) <| bj Z Zl <| bj Z Zl <| oF 21 Z (by omega) ?_
   skip
   refine ap <| ab <| ai Z <| b8 <| aw <| ax <| aq <| bg <| ab <| aa <| ae Z <| ay Z <| ae Z <| ad ?_;rw [show (i:Int)+1=((i+1:Nat):Int) by omega];refine i9 (i+1,[]++x::S2,T) (by rw [show []++(x::(S2++T)) = []++x::S2++T by simp];exact Ent.refl _) ⟨by dsimp only;rw [show []++x::S2++T = []++(x::(S2++T)) by simp];exact hpD,hst (fun s S' e=>by simp at e) hlt,by dsimp only;simp at hi ⊢;omega⟩ (by dsimp only;simp)
  ·rw [List.concat_eq_append] at *;have hj2:S1'.length+1=j:=by simp at hj;omega
   have e3:S1' ++ [s]++(x::(S2++T))=S1'++s::x::(S2++T):=by simp
   have hsm:s∈D:=hall s (by simp);have sl:=hz s hsm;have hjs:j - 1<(S1' ++ [s]++(x::(S2++T))).length:=by omega
   have has:(S1' ++ [s]++(x::(S2++T)))[j - 1]'hjs=s:=by
    simp only [e3];rw [List.getElem_append_right (by omega)];simp [show j - 1 - S1'.length=0 by omega]
   have fs:=gJ hzX hjs;rw [has] at fs;have hsw:((S1' ++ [s]++(x::(S2++T))).set j s).set (j - 1) x=S1'++(x::(s::S2++T)):=by
    have:=aad S1' s x (S2++T);rw [hj2,show S1'.length=j - 1 by omega,← e3] at this;rw [this];simp
   have w1:=gK (f:=u8s) (x:=s) hzX sl hjn;have hz2:∀ d∈(S1' ++ [s]++(x::(S2++T))).set j s,(u8s d).length=32:=fun d hd=>by
    rcases asc hd with h | rfl
    ·exact hzX d h
    ·exact sl
   have w2:=gK (f:=u8s) (x:=x) hz2 xl (i:=j - 1) (by rw [asw];omega);have l1:=l9 hzX;have l2:=l9 hz2;rw [asw] at l2;rw [hsw] at w2;rw [hlenD] at l1 l2;have x1:=ho x hxm;have x2:=ho s hsm;have hN:((j:Int) - 1).toNat=j - 1:=by omega
   have hb1:j*32+32≤n*32∧(j - 1)*32+32≤n*32:=by omega
   have hcy:=hc x hxm s hsm;generalize hX:S1' ++ [s]++(x::(S2++T))=X at *;generalize u8s x=xs at *;generalize u8s s=ss at *;refine qb av <| ac <| ac <| cq flo (row t_api_ID 32 (.slice (some ⟨gg,oo,none⟩) n c) n (flC u8s X)::F) (by decide +kernel) av <| bj Z Zl <| bj Z Zl <| bj Z Zl <| bj Z Zl <| cJ 21 Z (by omega) <| bj Z Zl <| bj Z Zl <| bj Z Zl <| dx Z Z ?_;refine su 0 (j*32) Z Z Z Z Z Z Z Z (by rw [b5,apu]) (by omega) fx (by rw [xl];rfl) ?_;refine bj Z Zl <| bj Z Zl <| dx Z Z <| dx Z Z ?_;refine su 0 ((j - 1)*32) Z Z Z Z Z Z Z Z (by rw [b5,hN]) (by omega) fs (by rw [sl];rfl) ?_;refine fe Z Z Z Z (hcy [_]) av <| bj Z Zl <| bj Z Zl ?_;by_cases hcm:cm x s<0;rotate_left
   ·refine oF 34 Z hcm ?_
    skip
    refine ap <| ab <| ai Z <| b8 <| aw <| ax <| aq <| bg <| ab <| aa <| ae Z <| ay Z <| ae Z <| ad ?_;rw [show (i:Int)+1=((i+1:Nat):Int) by omega];refine i9 (i+1,(S1' ++ [s])++x::S2,T) (by rw [← hX,show S1' ++ [s]++(x::(S2++T))=S1' ++ [s]++x::S2++T by simp];exact Ent.refl _) ⟨by dsimp only;rw [show S1' ++ [s]++x::S2++T=S1' ++ [s]++(x::(S2++T)) by simp,hX];exact hpD,hst (fun s' S'' e=>by
     obtain ⟨_,e⟩:=List.append_inj' e Z;cases e;exact hcm) hlt,by dsimp only;simp at hi ⊢;omega⟩ (by dsimp only;simp)
   ·refine cJ 34 Z hcm ?_
    skip
    refine ap <| ab <| ar Z <| ah <| ab <| ac <| ak ?_;refine cK flo 18 _ (by kernel_rfl) Z av ?_;refine my (15,[0,1,5,6,7,8,9,10,11,12,13,14]) [] (by kernel_rfl) ⟨i6 0 2 (L2:=List.range' 5 10) Z Z ?_,trivial⟩;refine bj Z Zl <| bj Z Zl <| ap (pk av (i6 5 10 (L2:= []) Z Z (bj Z Zl <| bj Z Zl <| dx Z Z <| dx Z Z ?_)));refine su 0 ((j - 1)*32) Z Z Z Z Z Z Z Z (by rw [b5,hN]) (by omega) fs (by rw [sl];rfl) ?_;refine bj Z Zl <| bj Z Zl <| dx Z Z ?_;refine su 0 (j*32) Z Z Z Z Z Z Z Z (by rw [b5,apu]) (by omega) fx (by rw [xl];rfl) ?_;refine dx Z Z <| ap <| pk av <| fz [] Z (dc _) ?_;refine vp 0 (j*32) Z Z Z Z Z Z Z Z Z w1 (by rw [sl];rfl) (by rw [b5,apu]) (by rw [sl];omega) x2 (dc _) ?_;refine ap (ip (dc _) (my (17,[2,3,4,16]) [] (by kernel_rfl) ⟨i6 2 3 (L2:= [16]) Z Z ?_,trivial⟩));refine bj Z Zl <| bj Z Zl <| dx Z Z <| ap <| pk (dc _) <| dZ 16 1 Z Z Z <| dx Z Z ?_;refine vp 0 ((j - 1)*32) Z Z Z Z Z Z Z Z Z w2 (by rw [xl];rfl) (by rw [b5,hN]) (by rw [xl];omega) x1 (dc _) ?_;refine ap (ip (dc _) (jG 0 0 (by kernel_rfl) (by kernel_rfl) Z (ap ?_)));refine bg <| ab <| aa <| ae Z <| ay Z <| ae Z <| ad ?_;rw [show (j:Int) - 1=((j - 1:Nat):Int) by omega];refine i9 (j - 1,S1',s::S2) av ⟨by simp,by dsimp only;omega,fun t T'' e=>by cases e;exact hcm⟩ (by dsimp only;simp)
 ·refine b8 <| aw <| ax <| aq ?_;have hT0:T = []:=by
   have:T.length=0:=by omega
   exact aql this
  subst hT0;rw [aqg] at hp ⊢;refine io Z .nil av ?_;exact ⟨M,hp,hs,rfl⟩
theorem amb (hn:D.length=n) (hm:n≤12):SC Tryz.prog lf [.slice A n c,.func (.func f) ⟨[]⟩ ⟨[]⟩] b (row t_api_ID 32 (.slice A n c) n (flC u8s D)::F) (fun _ F'=>∃ M,M.Perm D∧(M.Pairwise fun a c=>¬ cm c a<0)∧F'=row t_api_ID 32 (.slice A n c) n (flC u8s M)::F):=by
 have hpd:∀ {u:Value},SC Tryz.prog m8 [.slice A n c,ii 0,ii n,u,.func (.func f) ⟨[]⟩ ⟨[]⟩] b (row t_api_ID 32 (.slice A n c) n (flC u8s D)::F) (fun _ F'=>∃ M,M.Perm D∧(M.Pairwise fun a c=>¬ cm c a<0)∧F'=row t_api_ID 32 (.slice A n c) n (flC u8s M)::F):=by
  intro u;refine ao Tryz.func245 Z Z Z <| anf <| ae Z <| aby <| ae Z <| ane <| ak <| d6 (S:=Unit) (fun _=> [(0,.slice A n c),(1,ii 0),(2,ii n),(4,.func (.func f) ⟨[]⟩ ⟨[]⟩)]) (fun _=>row t_api_ID 32 (.slice A n c) n (flC u8s D)::F) (fun _=>True) (fun _=>0) () av trivial ?_;intro _ _;refine ak <| anf <| apn Z Z <| ay Z <| ae Z <| ane <| ac <| anf <| apn Z Z <| ane <| Ad 25 Z <| ar Z <| anf <| apo Z Z Z <| ae Z <| am Z Z Z (ama hc hz ho hT hA hn (by omega)) ?_;rintro _ _ ⟨M,g1,g2,rfl⟩;refine ane <| aj <| al <| az <| du <| az <| ez Z .nil av ?_;exact ⟨M,g1,g2,rfl⟩
 refine ao Tryz.func176 Z Z Z <| anf <| apo Z Z Z <| ane <| aa <| apo Z Z Z <| ae Z <| bn 10 (.int .u64 n) Z (ap2 (Value.int .u64) (O7 (by omega))) <| am Z Z Z (Gj (by omega)) ?_;rintro u _ ⟨rfl⟩;refine ae Z <| am Z Z Z (hpd) ?_;rintro _ _ ⟨M,g1,g2,rfl⟩;refine ad <| io Z .nil av ?_;exact ⟨M,g1,g2,rfl⟩
end
section
variable {b:World} {F:List SP} {p:Dc→Bool} {f:Nat} [Bodied Tryz.prog f] {pre post:List Value} {D:List Dc} {va:Value}
 (hc:∀ d∈D,∀ B:List SP,SC Tryz.prog f (pre++([.agg ⟨dcC d⟩]++post)) b (B++F) (fun u F'=>u = .bool (p d)∧F'=B++F)) (hz:∀ d∈D,(dcC d).length=35)
include hc hz
theorem amc (ha:∀ w,Sat b F w→SL w 35 va D.length (flC dcC D)) (hn:D.length≤100000) :
  SC Tryz.prog ow [va,.func (.func f) ⟨pre⟩ ⟨post⟩] b F (fun u F'=>(∃ P T,D=P++T∧(∀ e∈P,p e=false)∧(∀ t T',T=t::T'→p t=true)∧u=ii (if T = [] then -1 else (P.length:Int)))∧F'=F):=by
 refine ao Tryz.func108 Z Z Z <| bu (fun w H=>ci (ha w H)) ?_;rintro ⟨A,c,rfl,_,_,_,h4,_⟩;refine anf <| ae Z <| ane <| ac <| anf <| apo Z Z Z <| ane <| ak ?_;refine d6 (S:=Nat) (fun i=> [(0,.slice A D.length c),(1,.func (.func f) ⟨pre⟩ ⟨post⟩),(7,ii D.length),(8,ii i)]) (fun _=>F) (fun i=>i≤D.length∧∀ e∈D.take i,p e=false) (fun i=>D.length - i) 0 av ⟨aqc _,fun e he=>by simp at he⟩ ?_;rintro i ⟨hi,hP⟩;refine anf <| ae Z <| ane <| ac ?_;refine cj Z (fun h1=> ?_) (fun h1=> ?_)
 ·have h1':i<D.length:=by omega
  obtain ⟨gg,oo,rfl⟩:=h4 (by omega);have ca:∀ w,Sat b F w→∀ j,j<35→w.cell? ⟨gg,oo+i*35+j,none⟩=(dcC D[i])[j]?:=fun w H j hj=>ej (ha w H) hz h1' hj
  have hcy:=hc _ (apw h1');have hyl:=hz _ (apw h1');have hsn:D.take (i+1)=D.take i ++ [D[i]]:=apz h1';have hdr:D.drop i=D[i]::D.drop (i+1):=aqq h1';generalize hy:D[i]=y at *;generalize dcC y=cs at *;refine ah <| ab <| ac <| ak <| anf <| apn Z Z <| aby <| apo Z Z Z <| ay Z ?_;refine fc Z (fun w H=>di (cs:=cs) Z Z Z hyl (fun j hj=>by rw [b5,apu];exact ca w H j (by rw [hyl] at hj;exact hj))) Z ?_;refine au Z Z Z (hcy []) <| ane ?_;refine w9 Z (fun q=> ?_) (fun q=> ?_)
  ·refine anf <| apn Z Z <| ane <| aj <| az <| al <| du <| az <| al <| bh Z Z av ?_;refine ⟨⟨D.take i,D.drop i,(aqs i D).symm,hP,fun t T' h=> ?_,?_⟩,rfl⟩
   ·rw [hdr] at h;cases h;exact q
   ·rw [hdr,if_neg (by simp),ap7,asx hi];rfl
  ·refine ah <| bg <| ab <| aa <| ay Z <| ae Z <| ad <| dj (i+1) av ⟨h1',fun e he=> ?_⟩;rw [hsn] at he;rcases ap6.1 he with he | he
   ·exact hP e he
   ·rw [apy.1 he];exact q
 ·obtain rfl:i=D.length:=by omega
  rw [aqk] at hP;refine b8 <| aw <| ax <| aq <| ab <| anf <| ae Z <| ane <| aj <| bh Z Z av ?_;exact ⟨⟨D,[],by simp,hP,(fun t T' h=>by cases h),rfl⟩,rfl⟩
theorem amd (ha:∀ w,Sat b F w→SL w 35 va D.length (flC dcC D)) (hn:D.length≤100000) :
  SC Tryz.prog nr [va,.func (.func f) ⟨pre⟩ ⟨post⟩] b F (fun u F'=>u = .bool (D.any p)∧F'=F):=by
 refine ao Tryz.func38 Z Z Z <| anf <| ae Z <| aby <| apn Z Z <| am Z Z Z (amc hc hz ha hn) ?_;rintro _ _ ⟨⟨P,T,hPT,hP,hT,rfl⟩,rfl⟩;have hfP:P.any p=false:=by rw [atl];intro e he;rw [hP e he];simp
 cases T with
 | nil =>
  rw [if_pos rfl];refine apn Z Z <| ane <| aj <| bh Z Z av ?_;rw [hPT,aqg,hfP];exact ⟨rfl,rfl⟩
 | cons t T =>
  rw [if_neg (by simp)];refine apn Z Z <| ane <| aj <| bh Z Z av ?_;rw [hPT,List.any_append,hfP,List.any_cons,hT t T rfl];exact ⟨ap2 Value.bool (ap5 (by omega)),rfl⟩
end
end Go.Proofs.YtbfailbgdnpaiaaGreatDoor
