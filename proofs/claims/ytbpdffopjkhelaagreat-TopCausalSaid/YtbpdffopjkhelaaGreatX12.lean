/- Tables, part one: plain tables in their form, and what is held where; a table is told by that. Conditions: none. -/
import Derived.Test.YtbpdffopjkhelaaGreatX9
import Derived.Test.YtbpdffopjkhelaaGreatX10
import Derived.Test.YtbpdffopjkhelaaGreatX6
import Derived.Test.YtbpdffopjkhelaaGreatX3
set_option maxRecDepth 20000
set_option maxHeartbeats 8000000
namespace Go.Proofs.YtbpdffopjkhelaaGreat
open Go Go.Eng Go.RowKit Go.WideMaps Go.Heap

def cbN (a b:ByteArray):Int:=Lib.compareBytes a.data.toList b.data.toList
theorem wk (a b:ByteArray):cbN a b = -cbN b a:=iC _ _
theorem lp (a:ByteArray):cbN a a=0:=by have:=wk a a;omega
theorem Aw {a b:ByteArray} (h:cbN a b=0):a=b:=by
 have h1:=qT a.data.toList b.data.toList (by unfold cbN at h;omega) (by have:=wk a b;unfold cbN at this h;omega);exact ari (aqe h1)
theorem pT:∀ {x y z:List UInt8},Lib.compareBytes x y<0→Lib.compareBytes y z<0→Lib.compareBytes x z<0
 | [], [], _, h, _ => by simp [Lib.compareBytes] at h
 | [], _ :: _, [], _, h => by simp [Lib.compareBytes] at h
 | [], _ :: _, _ :: _, _, _ => by simp [Lib.compareBytes]
 | _ :: _, [], _, h, _ => by simp [Lib.compareBytes] at h
 | _ :: _, _ :: _, [], _, h => by simp [Lib.compareBytes] at h
 | a :: x, b :: y, c :: z, h1, h2 => by
  have ih:= @pT x y z;simp only [Lib.compareBytes,aqs] at h1 h2 ⊢;by_cases e1:a.toNat<b.toNat
  ·by_cases e2:b.toNat<c.toNat
   ·rw [if_pos (by omega)];omega
   ·rw [if_neg e2] at h2;by_cases e3:c.toNat<b.toNat
    ·rw [if_pos e3] at h2;omega
    ·rw [if_pos (by omega)];omega
  ·rw [if_neg e1] at h1;by_cases e2:b.toNat<a.toNat
   ·rw [if_pos e2] at h1;omega
   ·rw [if_neg e2] at h1;by_cases e3:b.toNat<c.toNat
    ·rw [if_pos (by omega)];omega
    ·rw [if_neg e3] at h2;by_cases e4:c.toNat<b.toNat
     ·rw [if_pos e4] at h2;omega
     ·rw [if_neg e4] at h2;rw [if_neg (by omega),if_neg (by omega)];exact ih h1 h2
theorem qj {a b c:ByteArray} (h1:cbN a b<0) (h2:cbN b c<0):cbN a c<0:=pT h1 h2
structure Hd where
 d:Int × Int
 id:List Int
structure TG where
 nm:ByteArray
 hs:List Hd
structure RP where
 nm:ByteArray
 ts:List TG
 ms:List Hd
structure TB where
 V:List Int
 rs:List RP
def ltD (a b:Int × Int):Prop:=a.1<b.1∨(a.1=b.1∧a.2<b.2)
instance (a b:Int × Int):Decidable (ltD a b):=by unfold ltD;infer_instance
theorem Jp (a:Int × Int):¬ ltD a a:=by unfold ltD;omega
theorem oW {a b c:Int × Int} (h1:ltD a b) (h2:ltD b c):ltD a c:=by unfold ltD at *;omega
theorem Jq {a b:Int × Int} (h1:¬ ltD a b) (h2:¬ ltD b a):a=b:=by unfold ltD at *;exact aqq (by omega) (by omega)
def nk (l:List Hd):Prop:=l.Pairwise fun a b=>ltD a.d b.d
theorem iE {α:Type} {lt:α→α→Prop} (irr:∀ a,¬ lt a a) (tr:∀ {a b c},lt a b→lt b c→lt a c):∀ {l m:List α},l.Pairwise lt→m.Pairwise lt→(∀ x,x∈l↔x∈m)→l=m
 | [], [], _, _, _ => rfl
 | [], y :: m, _, _, h => absurd ((h y).2 anl) (by simp)
 | x :: l, [], _, _, h => absurd ((h x).1 anl) (by simp)
 | x :: l, y :: m, h1, h2, h => by
  rw [aod] at h1 h2;have e:x=y:=by
   rcases anj.1 ((h x).1 anl) with e | hx
   ·exact e
   ·rcases anj.1 ((h y).2 anl) with e | hy
    ·exact e.symm
    ·exact absurd (tr (h1.1 y hy) (h2.1 x hx)) (irr x)
  subst e;refine am7 (x :: ·) (iE irr tr h1.2 h2.2 fun z=>⟨fun hz=> ?_,fun hz=> ?_⟩)
  ·rcases anj.1 ((h z).1 (ank _ hz)) with e | hz'
   ·subst e;exact absurd (h1.1 z hz) (irr z)
   ·exact hz'
  ·rcases anj.1 ((h z).2 (ank _ hz)) with e | hz'
   ·subst e;exact absurd (h2.1 z hz) (irr z)
   ·exact hz'
theorem Hw {l m:List Hd} (h1:nk l) (h2:nk m) (h:∀ x,x∈l↔x∈m):l=m:=iE (lt:=fun a b:Hd=>ltD a.d b.d) (fun a=>Jp a.d) (fun h1 h2=>oW h1 h2) h1 h2 h
structure Pl where
 repo:ByteArray
 tag:Option ByteArray
def m7 (s:ByteArray):List TG→List Hd
 | [] => []
 | g :: l => if g.nm = s then g.hs else m7 s l
def zf (p:Pl) (r:RP):List Hd:=match p.tag with
 | none => r.ms
 | some s => m7 s r.ts
def atP (p:Pl):List RP→List Hd
 | [] => []
 | r :: l => if r.nm = p.repo then zf p r else atP p l
structure Zm (r:RP):Prop where
 ts:r.ts.Pairwise fun a b=>cbN a.nm b.nm<0
 th:∀ g∈r.ts,g.hs≠ []∧nk g.hs
 ms:nk r.ms
 ne:r.ts≠ []∨r.ms≠ []
structure ve (l:List RP):Prop where
 rs:l.Pairwise fun a b=>cbN a.nm b.nm<0
 ok:∀ r∈l,Zm r
theorem zg {s:ByteArray}:∀ {l:List TG},(∀ g∈l,g.nm≠s)→m7 s l = []
 | [], _ => rfl
 | g :: l, h => by
  rw [m7,if_neg (h g anl)];exact zg fun x hx=>h x (ank _ hx)
theorem bT {l:List TG} (hs:l.Pairwise fun a b=>cbN a.nm b.nm<0) {g:TG} (hg:g∈l):m7 g.nm l=g.hs:=by
 induction l with
 | nil => cases hg
 | cons x l ih =>
  rw [aod] at hs;rw [m7];rcases anj.1 hg with rfl | hg
  ·exact if_pos Z
  ·rw [if_neg fun e=> ?_]
   ·exact ih hs.2 hg
   ·have:=hs.1 g hg;rw [e,lp] at this;omega
theorem gH {p:Pl}:∀ {l:List RP},(∀ r∈l,r.nm≠p.repo)→atP p l = []
 | [], _ => rfl
 | g :: l, h => by
  rw [atP,if_neg (h g anl)];exact gH fun x hx=>h x (ank _ hx)
theorem xz {l:List RP} (hs:l.Pairwise fun a b=>cbN a.nm b.nm<0) {r:RP} (hr:r∈l) {p:Pl} (hp:p.repo=r.nm):atP p l=zf p r:=by
 induction l with
 | nil => cases hr
 | cons x l ih =>
  rw [aod] at hs;rw [atP,hp];rcases anj.1 hr with rfl | hr
  ·exact if_pos Z
  ·rw [if_neg fun e=> ?_]
   ·exact ih hs.2 hr
   ·have:=hs.1 r hr;rw [e,lp] at this;omega
theorem Mc {l m:List TG} (h1:l.Pairwise fun a b=>cbN a.nm b.nm<0) (h2:m.Pairwise fun a b=>cbN a.nm b.nm<0) (n1:∀ g∈l,g.hs≠ []) (n2:∀ g∈m,g.hs≠ []) (h:∀ s,m7 s l=m7 s m):l=m:=by
 have sub:∀ {l m:List TG},l.Pairwise (fun a b=>cbN a.nm b.nm<0)→m.Pairwise (fun a b=>cbN a.nm b.nm<0)→(∀ g∈l,g.hs≠ [])→(∀ s,m7 s l=m7 s m)→∀ g∈l,g∈m:=fun {l m} h1 h2 n1 h g hg=>by
  have e:=h g.nm;rw [bT h1 hg] at e;by_cases hx:∃ x∈m,x.nm=g.nm
  ·obtain ⟨x,hx,hn⟩:=hx;rw [← hn,bT h2 hx] at e;have:g=x:=by cases g;cases x;simp only at hn e;subst hn;subst e;rfl
   rw [this];exact hx
  ·rw [zg fun x hx2 hn=>hx ⟨x,hx2,hn⟩] at e;exact absurd e (n1 g hg)
 exact iE (lt:=fun a b:TG=>cbN a.nm b.nm<0) (fun a=>by rw [lp];omega) (fun h1 h2=>qj h1 h2) h1 h2 fun x=>⟨sub h1 h2 n1 h x,sub h2 h1 n2 (fun s=>(h s).symm) x⟩
theorem kO {l m:List RP} (h1:ve l) (h2:ve m) (h:∀ p,atP p l=atP p m):l=m:=by
 have sub:∀ {l m:List RP},ve l→ve m→(∀ p,atP p l=atP p m)→∀ r∈l,r∈m:=fun {l m} h1 h2 h r hr=>by
  have hok:=h1.ok r hr;by_cases hx:∃ x∈m,x.nm=r.nm
  ·obtain ⟨x,hx,hn⟩:=hx;have hxk:=h2.ok x hx;have em:r.ms=x.ms:=by
    have e:=h ⟨r.nm,none⟩;rw [xz h1.rs hr rfl,xz h2.rs hx hn.symm] at e;exact e
   have et:r.ts=x.ts:=Mc hok.ts hxk.ts (fun g hg=>(hok.th g hg).1) (fun g hg=>(hxk.th g hg).1) fun s=>by
    have e:=h ⟨r.nm,some s⟩;rw [xz h1.rs hr rfl,xz h2.rs hx hn.symm] at e;exact e
   have:r=x:=by cases r;cases x;simp only at hn em et;subst hn;subst em;subst et;rfl
   rw [this];exact hx
  ·have hno:∀ p:Pl,p.repo=r.nm→atP p m = []:=fun p hp=>gH fun x hx2 hn=>hx ⟨x,hx2,hn.trans hp⟩
   rcases hok.ne with hne | hne
   ·obtain ⟨g,hg⟩:=apx _ hne;have e:=h ⟨r.nm,some g.nm⟩;rw [xz h1.rs hr rfl,hno _ rfl] at e;have e':m7 g.nm r.ts = []:=e;rw [bT hok.ts hg] at e';exact absurd e' (hok.th g hg).1
   ·have e:=h ⟨r.nm,none⟩;rw [xz h1.rs hr rfl,hno _ rfl] at e;exact absurd e hne
 exact iE (lt:=fun a b:RP=>cbN a.nm b.nm<0) (fun a=>by rw [lp];omega) (fun h1 h2=>qj h1 h2) h1.rs h2.rs fun x=>⟨sub h1 h2 h x,sub h2 h1 (fun p=>(h p).symm) x⟩

instance:DecidableEq Pl:=fun a b=>if h:a.repo=b.repo∧a.tag=b.tag then .isTrue (by cases a;cases b;simp only at h;rw [h.1,h.2]) else .isFalse fun e=>h (by rw [e];exact ⟨rfl,rfl⟩)
abbrev dotE (e:Ev):Int × Int:=(e.r,e.n)
def hdE (e:Ev):Hd:=⟨dotE e,e.id⟩
def zy (e:Ev) (p:Pl):Prop:=(e.kind=1∧p=⟨e.repo,none⟩)∨(e.kind=3∧p=⟨e.repo,some e.tag⟩)
def zh (e:Ev) (p:Pl) (h:Hd):Prop:=((e.kind=2∧p=⟨e.repo,none⟩∧h.id=e.id)∨((e.kind=3∨e.kind=4)∧p=⟨e.repo,some e.tag⟩))∧fq e.deps h.d.1 h.d.2=true
def qk (D:List Ev) (p:Pl) (h:Hd):Prop:=∃ x∈D,zy x p∧h=hdE x∧∀ e∈D,¬ zh e p h
theorem qk.perm {D D':List Ev} (hD:∀ e,e∈D↔e∈D') {p:Pl} {h:Hd}:qk D p h↔qk D' p h :=
 ⟨fun ⟨x,hx,h1,h2,h3⟩=>⟨x,(hD x).1 hx,h1,h2,fun e he=>h3 e ((hD e).2 he)⟩,fun ⟨x,hx,h1,h2,h3⟩=>⟨x,(hD x).2 hx,h1,h2,fun e he=>h3 e ((hD e).1 he)⟩⟩
theorem qk.snoc {D:List Ev} {e:Ev} (h1:∀ y∈D,fq y.deps e.r e.n=false) (h2:fq e.deps e.r e.n=false) (p:Pl) (h:Hd):qk (D ++ [e]) p h↔(zy e p∧h=hdE e)∨(qk D p h∧¬ zh e p h):=by
 constructor
 ·rintro ⟨x,hx,ha,rfl,hn⟩;rcases anr.1 hx with hx | hx
  ·exact .inr ⟨⟨x,hx,ha,rfl,fun y hy=>hn y (an5 _ hy)⟩,hn e (by simp)⟩
  ·rw [anc.1 hx] at ha ⊢;exact .inl ⟨ha,rfl⟩
 ·rintro (⟨ha,rfl⟩ | ⟨⟨x,hx,ha,rfl,hn⟩,ht⟩)
  ·refine ⟨e,by simp,ha,rfl,fun y hy ht=> ?_⟩;have h3:fq y.deps e.r e.n=true:=ht.2;rcases anr.1 hy with hy | hy
   ·rw [h1 y hy] at h3;cases h3
   ·rw [anc.1 hy,h2] at h3;cases h3
  ·refine ⟨x,an5 _ hx,ha,rfl,fun y hy=> ?_⟩;rcases anr.1 hy with hy | hy
   ·exact hn y hy
   ·rw [anc.1 hy];exact ht
theorem Hx {e:Ev} {p q:Pl} (h1:zy e p) (h2:zy e q):p=q:=by
 rcases h1 with ⟨k1,rfl⟩ | ⟨k1,rfl⟩ <;> rcases h2 with ⟨k2,rfl⟩ | ⟨k2,rfl⟩
 ·rfl
 ·omega
 ·omega
 ·rfl
structure TI (n:Nat) (D:List Ev) (t:TB):Prop where
 rs:ve t.rs
 vl:t.V.length=n
 vo:tf t.V
 at_:∀ p h,h∈atP p t.rs↔qk D p h
 un:∀ e∈D,fq t.V e.r e.n=true
 nd:(D.map dotE).Nodup
theorem TI.dots {n:Nat} {D:List Ev} {t:TB} (h:TI n D t) {p:Pl} {x:Hd} (hx:x∈atP p t.rs):fq t.V x.d.1 x.d.2=true:=by
 obtain ⟨e,he,_,rfl,_⟩:=(h.at_ p x).1 hx;exact h.un e he
theorem oX {D:List Ev} (h:(D.map dotE).Nodup) {a c:Ev} (ha:a∈D) (hc:c∈D) (e:dotE a=dotE c):a=c:=by
 obtain ⟨i,hi,rfl⟩:=ao0.1 ha;obtain ⟨j,hj,rfl⟩:=ao0.1 hc;rcases Nat.lt_trichotomy i j with hlt | hlt | hlt
 ·have:=aou.1 h i j (by rw [anf];exact hi) (by rw [anf];exact hj) hlt;rw [aox,aox] at this;exact absurd e this
 ·subst hlt;rfl
 ·have:=aou.1 h j i (by rw [anf];exact hj) (by rw [anf];exact hi) hlt;rw [aox,aox] at this;exact absurd e.symm this
theorem TI.one {n:Nat} {D:List Ev} {t:TB} (h:TI n D t) {p q:Pl} {x y:Hd} (hx:x∈atP p t.rs) (hy:y∈atP q t.rs) (e:x.d=y.d):p=q∧x=y:=by
 obtain ⟨a,ha,h1,rfl,_⟩:=(h.at_ p x).1 hx;obtain ⟨c,hc,h2,rfl,_⟩:=(h.at_ q y).1 hy;have:=oX h.nd ha hc e;subst this;exact ⟨Hx h1 h2,rfl⟩
theorem Ep {l:List RP} (h:ve l) (p:Pl):nk (atP p l):=by
 by_cases hx:∃ r∈l,r.nm=p.repo
 ·obtain ⟨r,hr,hn⟩:=hx;rw [xz h.rs hr hn.symm];have hk:=h.ok r hr;unfold zf;cases p.tag with
  | none => exact hk.ms
  | some s =>
   by_cases hg:∃ g∈r.ts,g.nm=s
   ·obtain ⟨g,hg,rfl⟩:=hg;show nk (m7 g.nm r.ts);rw [bT hk.ts hg];exact (hk.th g hg).2
   ·show nk (m7 s r.ts);rw [zg fun g hg2 e=>hg ⟨g,hg2,e⟩];exact List.Pairwise.nil
 ·rw [gH fun r hr hn=>hx ⟨r,hr,hn⟩];exact List.Pairwise.nil
theorem uO {l m:List RP} {D D':List Ev} (h1:ve l) (h2:ve m) (a1:∀ p h,h∈atP p l↔qk D p h) (a2:∀ p h,h∈atP p m↔qk D' p h) (hD:∀ e,e∈D↔e∈D'):l=m :=
 kO h1 h2 fun p=>Hw (Ep h1 p) (Ep h2 p) fun x=>(a1 p x).trans ((qk.perm hD).trans (a2 p x).symm)
def q5 (h:Hd):List Hd→List Hd
 | [] => [h]
 | x :: l => if ltD x.d h.d then x :: q5 h l else h :: x :: l
theorem bU {h x:Hd}:∀ {l:List Hd},x∈q5 h l↔x=h∨x∈l
 | [] => by simp [q5]
 | y :: l => by
  rw [q5]
  split
  ·rw [anj,bU,anj]
   constructor
   ·rintro (h1 | h1 | h1)
    ·exact .inr (.inl h1)
    ·exact .inl h1
    ·exact .inr (.inr h1)
   ·rintro (h1 | h1 | h1)
    ·exact .inr (.inl h1)
    ·exact .inl h1
    ·exact .inr (.inr h1)
  ·rw [anj]
theorem oY {h:Hd}:∀ {l:List Hd},nk l→(∀ x∈l,x.d≠h.d)→nk (q5 h l)
 | [], _, _ => ao7 _ _
 | y :: l, hr, hn => by
  have hr':=aod.1 hr;rw [q5]
  split
  ·rename_i hlt
   refine aod.2 ⟨fun z hz=> ?_,oY hr'.2 fun x hx=>hn x (ank _ hx)⟩;rcases bU.1 hz with rfl | hz
   ·exact hlt
   ·exact hr'.1 z hz
  ·rename_i hge
   have hhy:ltD h.d y.d:=by
    by_cases h1:ltD h.d y.d
    ·exact h1
    ·exact absurd (Jq hge h1) (hn y anl)
   refine aod.2 ⟨fun z hz=> ?_,hr⟩;rcases anj.1 hz with rfl | hz
   ·exact hhy
   ·exact oW hhy (hr'.1 z hz)
def wm (e:Ev) (l:List Hd):List Hd:=l.filter fun h=> !fq e.deps h.d.1 h.d.2
def wn (e:Ev) (l:List Hd):List Hd:=l.filter fun h=> !(fq e.deps h.d.1 h.d.2&&decide (h.id=e.id))
def uc (e:Ev) (p:Pl) (l:List Hd):List Hd :=
 if e.kind=1∧p=⟨e.repo,none⟩ then q5 (hdE e) l
 else if e.kind=2∧p=⟨e.repo,none⟩ then wn e l
 else if e.kind=3∧p=⟨e.repo,some e.tag⟩ then q5 (hdE e) (wm e l)
 else if e.kind=4∧p=⟨e.repo,some e.tag⟩ then wm e l
 else l
theorem P9 {e:Ev} {p:Pl} {l:List Hd} {x:Hd} (hs:fq e.deps e.r e.n=false):x∈uc e p l↔(zy e p∧x=hdE e)∨(x∈l∧¬ zh e p x):=by
 have hno:¬ zh e p (hdE e):=fun h=>by
  have:=h.2;rw [show (hdE e).d=(e.r,e.n) from rfl] at this;rw [hs] at this;cases this
 unfold uc;by_cases k1:e.kind=1∧p=⟨e.repo,none⟩
 ·rw [if_pos k1,bU];have ht:¬ zh e p x:=fun h=>by
   rcases h.1 with ⟨h1,_⟩ | ⟨h1,_⟩ <;> omega
  have ha:zy e p:= .inl k1;simp [ha,ht]
 ·rw [if_neg k1];by_cases k2:e.kind=2∧p=⟨e.repo,none⟩
  ·rw [if_pos k2,wn,anx];have ha:¬ zy e p:=fun h=>by
    rcases h with ⟨h1,_⟩ | ⟨h1,_⟩ <;> omega
   have ht:zh e p x↔(fq e.deps x.d.1 x.d.2=true∧x.id=e.id):=by
    constructor
    ·rintro ⟨h1 | h1,h2⟩
     ·exact ⟨h2,h1.2.2⟩
     ·omega
    ·rintro ⟨h1,h2⟩;exact ⟨.inl ⟨k2.1,k2.2,h2⟩,h1⟩
   rw [ht];cases hh:fq e.deps x.d.1 x.d.2 <;> simp [ha]
  ·rw [if_neg k2];by_cases k3:e.kind=3∧p=⟨e.repo,some e.tag⟩
   ·rw [if_pos k3,bU,wm,anx];have ha:zy e p:= .inr k3;have ht:zh e p x↔fq e.deps x.d.1 x.d.2=true:=by
     constructor
     ·exact fun h=>h.2
     ·exact fun h=>⟨.inr ⟨.inl k3.1,k3.2⟩,h⟩
    rw [ht];simp [ha]
   ·rw [if_neg k3];by_cases k4:e.kind=4∧p=⟨e.repo,some e.tag⟩
    ·rw [if_pos k4,wm,anx];have ha:¬ zy e p:=fun h=>by
      rcases h with ⟨h1,_⟩ | ⟨h1,_⟩ <;> omega
     have ht:zh e p x↔fq e.deps x.d.1 x.d.2=true:=by
      constructor
      ·exact fun h=>h.2
      ·exact fun h=>⟨.inr ⟨.inr k4.1,k4.2⟩,h⟩
     rw [ht];simp [ha]
    ·rw [if_neg k4];have ha:¬ zy e p:=fun h=>by
      rcases h with h | h
      ·exact k1 h
      ·exact k3 h
     have ht:¬ zh e p x:=fun h=>by
      rcases h.1 with ⟨h1,h2,_⟩ | ⟨h1 | h1,h2⟩
      ·exact k2 ⟨h1,h2⟩
      ·exact k3 ⟨h1,h2⟩
      ·exact k4 ⟨h1,h2⟩
     simp [ha,ht]
theorem TI.step {n:Nat} {D:List Ev} {t t':TB} {e:Ev} (h:TI n D t) (hnew:fq t.V e.r e.n=false) (hle:lf e.deps t.V=true) (hself:fq e.deps e.r e.n=false) (hD:∀ y∈D,lf y.deps t.V=true) (h1:1≤e.r) (h2:e.r≤n) (h3:atL t.V e.r=e.n - 1) (h4:1≤e.n) (h5:e.n≤1048576)
  (hr:ve t'.rs) (hv:t'.V=lg t.V e.r e.n) (ha:∀ p,atP p t'.rs=uc e p (atP p t.rs)):TI n (D ++ [e]) t':=by
 have hlen:=h.vl;have hadv:=mV (V:=t.V) (r:=e.r) (m:=e.n) h1 (by omega) (by omega);have hy:∀ y∈D,fq y.deps e.r e.n=false:=fun y hy=>by
  cases hc:fq y.deps e.r e.n with
  | false => rfl
  | true => rw [y9 (hD y hy) hc] at hnew; cases hnew
 refine ⟨hr,by rw [hv];simp [lg,hlen],?_,fun p x=> ?_,fun y hy'=> ?_,?_⟩
 ·rw [hv];intro x hx;unfold lg at hx;rcases apd hx with hx | rfl
  ·exact h.vo x hx
  ·omega
 ·rw [ha,P9 hself,qk.snoc hy hself,h.at_]
 ·rw [hv];rcases anr.1 hy' with hy' | hy'
  ·exact y9 hadv (h.un y hy')
  ·rw [anc.1 hy'];exact mt.2 ⟨h1,h4,by rw [mU h1 (by omega) (by omega),if_pos rfl];omega⟩
 ·rw [anu];refine ap8.2 ⟨h.nd,by simp,fun a ha c hc hac=> ?_⟩;obtain ⟨y,hy',rfl⟩:=anb.1 ha;have hce:c=dotE e:=by simpa using hc
  rw [hce] at hac;have h6:=h.un y hy';have e1:y.r=e.r:=am7 Prod.fst hac;have e2:y.n=e.n:=am7 Prod.snd hac;rw [e1,e2,hnew] at h6;cases h6

structure ir (n:Nat) (l:List Ev):Prop where
 n1:1≤n
 n2:n≤16
 fit:∀ e∈l,qb n e 1=true
 kind:∀ e∈l,1≤e.kind∧e.kind≤4
 repo:∀ e∈l,mo (fe e.repo)=(0,0)
 tag:∀ e∈l,e.kind=3∨e.kind=4→po (fe e.tag)=(0,0)
 nd:(l.map dotE).Nodup
 dep:∀ e∈l,∀ i (hi:i<e.deps.length),e.deps[i]≠0→∃ f∈l,dotE f=((i:Int)+1,e.deps[i])∧lf f.deps e.deps=true
theorem vi {n:Nat} {e:Ev} {s:Int} (h:qb n e s=true):1≤e.r∧e.r≤n∧1≤e.n∧e.n≤1048576∧e.deps.length=n∧tf e.deps∧e.deps.getD (e.r - 1).toNat 0=e.n - 1:=by
 have h1:=of_decide_eq_true h;exact ⟨h1.2.2.1,h1.2.2.2.1,h1.2.2.2.2.1,h1.2.2.2.2.2.1,h1.2.2.2.2.2.2.1,h1.2.2.2.2.2.2.2.1,h1.2.2.2.2.2.2.2.2⟩
theorem Qa {n:Nat} {e:Ev} {s:Int} (h:qb n e 1=true) (h1:1≤s) (h2:s≤n):qb n e s=true:=by
 obtain ⟨a1,a2,a3,a4,a5,a6,a7⟩:=vi h;exact ani ⟨h1,h2,a1,a2,a3,a4,a5,a6,a7⟩
section
variable {n:Nat} {l:List Ev} (hG:ir n l)
include hG
theorem ir.chain {i:Nat}:∀ (k:Nat) {e:Ev},e∈l→∀ (hi:i<e.deps.length) {m:Int},1≤m→m≤e.deps[i]→e.deps[i] - m=k→∃ f∈l,dotE f=((i:Int)+1,m)∧lf f.deps e.deps=true
 | 0, e, he, hi, m, h1, h2, h3 => by
  obtain ⟨f,hf,h4,h5⟩:=hG.dep e he i hi (by omega);exact ⟨f,hf,by rw [h4];exact aqq Z (by dsimp only;omega),h5⟩
 | k + 1, e, he, hi, m, h1, h2, h3 => by
  obtain ⟨f,hf,h4,h5⟩:=hG.dep e he i hi (by omega);obtain ⟨a1,a2,a3,a4,a5,a6,a7⟩:=vi (hG.fit f hf);have hfr:f.r=(i:Int)+1:=am7 Prod.fst h4;have hfn:f.n=e.deps[i]:=am7 Prod.snd h4;have hi':i<f.deps.length:=by omega
  have hown:f.deps[i]=f.n - 1:=by
   rw [← a7,hfr,show ((i:Int)+1 - 1).toNat=i by omega,ano,am8 hi'];rfl
  obtain ⟨g,hg,h6,h7⟩:=ir.chain k hf hi' h1 (by omega) (by omega);exact ⟨g,hg,h6,za h7 h5⟩
theorem ir.self {e:Ev} (he:e∈l):fq e.deps e.r e.n=false:=by
 obtain ⟨a1,a2,a3,a4,a5,a6,a7⟩:=vi (hG.fit e he);cases hc:fq e.deps e.r e.n with
 | false => rfl
 | true =>
  have h1:=(mt.1 hc).2.2;rw [atL,if_pos (by omega)] at h1;unfold nn at h1;rw [a7] at h1;omega
theorem ir.emi {a c:Ev} (ha:a∈l) (hc:c∈l) (h:dotE a=dotE c):a=c:=oX hG.nd ha hc h
end
structure OfL (l:List Ev) (L:List Wn) (out:List Ev):Prop where
 inL:∀ w∈L,∃ x∈l,nE x=nE w.e
 out:∀ e∈out,∃ x∈l,nE x=nE e
theorem uP {a c:Ev} (h:nE a=nE c):em a=em c:=by
 have h1:=am7 (fun e:Ev=>em e) h;exact h1
theorem uQ {α:Type} (f:α→Int):∀ {l:List α},l≠ []→(∀ x∈l,0≤f x)→∃ x∈l,∀ y∈l,f x≤f y
 | [], h, _ => absurd Z h
 | [a], _, _ => ⟨a, by simp, fun y hy => by rw [anc.1 hy]; omega⟩
 | a :: c :: l, _, hp => by
  obtain ⟨x,hx,h1⟩:=uQ f (l:=c::l) (by simp) fun y hy=>hp y (ank _ hy)
  by_cases hle:f a≤f x
  ·refine ⟨a,anl,fun y hy=> ?_⟩;rcases anj.1 hy with rfl | hy
   ·omega
   ·have:=h1 y hy;omega
  ·refine ⟨x,ank _ hx,fun y hy=> ?_⟩;rcases anj.1 hy with rfl | hy
   ·omega
   ·exact h1 y hy
theorem Hy:∀ {a c:List Int},a.length=c.length→(∀ i (hi:i<a.length) (hj:i<c.length),a[i]≤c[i])→a.sum≤c.sum
 | [], [], _, _ => by simp
 | x :: a, y :: c, h, hh => by
  have h1:=hh 0 (by simp) (by simp);have h2:=Hy (a:=a) (c:=c) (by simpa using h) fun i hi hj=>by
   have:=hh (i+1) (by simpa using hi) (by simpa using hj);simpa using this
  simp only [aq3] at h1;simp only [List.sum_cons];omega
 | [], _ :: _, h, _ => by simp at h
 | _ :: _, [], h, _ => by simp at h
theorem Qb:∀ {a c:List Int} {k:Nat},a.length=c.length→(∀ i (hi:i<a.length) (hj:i<c.length),a[i]≤c[i])→∀ (hk:k<a.length) (hk':k<c.length),a[k]<c[k]→a.sum<c.sum
 | x :: a, y :: c, 0, h, hh, _, _, h3 => by
  have h2:=Hy (a:=a) (c:=c) (by simpa using h) fun i hi hj=>by
   have:=hh (i+1) (by simpa using hi) (by simpa using hj);simpa using this
  simp only [aq3] at h3;simp only [List.sum_cons];omega
 | x :: a, y :: c, k + 1, h, hh, hk, hk', h3 => by
  have h1:=hh 0 (by simp) (by simp);have h2:=Qb (a:=a) (c:=c) (k:=k) (by simpa using h) (fun i hi hj=>by
   have:=hh (i+1) (by simpa using hi) (by simpa using hj);simpa using this) (by simpa using hk) (by simpa using hk') (by simpa using h3)
  simp only [aq3] at h1;simp only [List.sum_cons];omega
 | [], [], k, _, _, hk, _, _ => by simp at hk
 | [], _ :: _, _, h, _, _, _, _ => by simp at h
 | _ :: _, [], _, h, _, _, _, _ => by simp at h
theorem pU {l:List Int} (h:tf l) {i:Nat} (hi:i<l.length):nn l i=l[i]:=by
 unfold nn;rw [ano,am8 hi];have:=h _ (ana hi);show max l[i] 0=l[i];omega
theorem Qc {n:Nat} {l:List Ev} (hG:ir n l) {V:List Int} {L:List Wn} {C:CL} {out:List Ev} (hq:QI n V L) (ho:OfL l L out) (hin:∀ x∈l,inQ V L (dotE x)) (hw:∀ w∈L,(cfm (dotW w) C).length=w.e.refs.length) (hr:n9 V L C = []):L = []:=by
 cases hLn:L with
 | nil => rfl
 | cons w0 t =>
 exfalso;have hLne:L≠ []:=by rw [hLn];simp
 have hfx:∀ w∈L,∃ x∈l,em x=em w.e∧qb n x 1=true:=fun w hw=>by
  obtain ⟨x,hx,h1⟩:=ho.inL w hw;exact ⟨x,hx,uP h1,hG.fit x hx⟩
 have hpos:∀ w∈L,0≤w.e.deps.sum:=fun w hw=>by
  obtain ⟨x,_,h1,h2⟩:=hfx w hw;obtain ⟨_,_,_,_,a5,a6,_⟩:=vi h2;have hd:x.deps=w.e.deps:=am7 (·.2.2) h1;rw [hd] at a6;have:=Hy (a:=List.replicate w.e.deps.length 0) (c:=w.e.deps) (by simp) fun i hi hj=>by
   have:=a6 _ (ana hj);rw [List.getElem_replicate];omega
  have e0:(List.replicate w.e.deps.length (0:Int)).sum=0:=by simp
  omega
 obtain ⟨w,hwL,hmin⟩:=uQ (fun w:Wn=>w.e.deps.sum) hLne hpos;obtain ⟨x,hx,hxe,hxf⟩:=hfx w hwL;obtain ⟨a1,a2,a3,a4,a5,a6,a7⟩:=vi hxf;have hd:x.deps=w.e.deps:=am7 (·.2.2) hxe;have hle:lf w.e.deps V=true:=by
  rw [qx];intro i;by_cases hi:i<w.e.deps.length
  ·have hiV:i<V.length:=by rw [hq.len];rw [← hd,a5] at hi;exact hi
   rw [pU (hd▸a6) hi,pU hq.num hiV];by_cases hlt:w.e.deps[i]≤V[i]
   ·exact hlt
   ·exfalso;have hV:=hq.num _ (ana hiV);have hix:i<x.deps.length:=by rw [hd];exact hi
    have hxi:x.deps[i]=w.e.deps[i]:=by simp only [hd]
    obtain ⟨f,hf,h4,h5⟩:=hG.chain (x.deps[i] - (V[i]+1)).toNat hx hix (m:=V[i]+1) (by omega) (by omega) (by omega);have hfr:f.r=(i:Int)+1:=am7 Prod.fst h4;have hfn:f.n=V[i]+1:=am7 Prod.snd h4;obtain ⟨b1,b2,b3,b4,b5,b6,b7⟩:=vi (hG.fit f hf);rcases hin f hf with h6 | ⟨w',hw',h6⟩
    ·have h7:=(mt.1 h6).2.2;rw [show (dotE f).1=f.r from rfl,show (dotE f).2=f.n from rfl,atL,if_pos (by rw [hfr];omega),hfr,show ((i:Int)+1 - 1).toNat=i by omega,pU hq.num hiV] at h7;omega
    ·obtain ⟨y,hy,h8⟩:=ho.inL w' hw';have hye:em y=em w'.e:=uP h8;have hyd:dotE y=dotE f:=by
      rw [← h6];exact aqq (am7 (·.1) hye) (am7 (·.2.1) hye)
     have:=hG.emi hy hf hyd;subst this;have hdw:w'.e.deps=y.deps:=(am7 (·.2.2) hye).symm;have hle2:=(qx _ _).1 h5;have hyi:i<y.deps.length:=by rw [b5,← hq.len];exact hiV
     have hown:y.deps[i]=y.n - 1:=by
      rw [← b7,hfr,show ((i:Int)+1 - 1).toNat=i by omega,ano,am8 hyi];rfl
     have hs:=Qb (a:=y.deps) (c:=x.deps) (k:=i) (by rw [a5,b5]) (fun j hj hj'=>by
      have:=hle2 j;rwa [pU b6 hj,pU a6 hj'] at this) hyi hix (by omega)
     have:=hmin w' hw';rw [hdw,← hd] at this;omega
  ·have h0:nn w.e.deps i=0:=sZ (by omega);rw [h0];exact bI _ _
 have hrip:dotW w∈ip V L:=anb.2 ⟨w,anx.2 ⟨hwL,hle⟩,rfl⟩;have hf:jr (dotW w) L=some w:=bP hq.nd hwL Z;have hmem:dotW w∈n9 V L C:=anx.2 ⟨hrip,by rw [zb,hf];exact ani (hw w hwL)⟩;rw [hr] at hmem;cases hmem

theorem l5 {x y:Ev} (h:nE x=nE y):x.r=y.r∧x.n=y.n∧x.deps=y.deps∧x.kind=y.kind∧x.repo=y.repo∧x.tag=y.tag∧x.id=y.id∧x.refs=y.refs:=by
 have h1:=am7 Ev.r h;have h2:=am7 Ev.n h;have h3:=am7 Ev.deps h;have h4:=am7 Ev.kind h;have h5:=am7 Ev.repo h;have h6:=am7 Ev.tag h;have h7:=am7 Ev.id h;have h8:=am7 Ev.refs h;exact ⟨h1,h2,h3,h4,h5,h6,h7,h8⟩
def wh (V:List Int) (L:List Wn) (C:CL) (x:Ev):Prop:=fq V x.r x.n=true∨((∃ w∈L,dotW w=dotE x)∧∀ m∈x.refs,m∈cfm (dotE x) C)
structure LI (n:Nat) (w:Int) (l:List Ev) (R:List (List Int)) (k:Nat) (V:List Int) (L:List Wn) (C:CL) (X:BL) (out:List Ev):Prop where
 g:GI n w V L C X
 q:Qp (l.map em) V L out
 o:OfL l L out
 dn:∀ x∈l.take k,wh V L C x∧x.refs.Nodup
 xn:(X.map (·.1)).Nodup
 xr:∀ e∈X,e.1∈R∧e.2.length≤60
theorem Jr:∀ {X:BL},(∀ e∈X,e.2.length≤60)→uM X≤60*X.length
 | [], _ => by simp [uM]
 | e :: X, h => by
  have h1:=h e anl;have h2:=Jr fun y hy=>h y (ank e hy)
  unfold uM at *;simp only [ant,List.sum_cons,anp];omega
theorem yJ {id:List Int}:∀ {X:BL},nj id X=none→id∉X.map (·.1)
 | [], _ => by simp
 | e :: X, h => by
  rw [nj] at h
  split at h
  ·cases h
  ·rename_i h1
   rw [ant,anj,not_or];exact ⟨fun h2=>h1 h2.symm,yJ h⟩
theorem Hz {l:List (List Int)} (h:mN l=true) (hl:∀ x∈l,lv x):l.Nodup:=by
 have h1:Eh l:=by
  refine aou.2 fun i j hi hj hij=> ?_
  induction j with
  | zero => omega
  | succ j ih =>
   have hs:pn l[j] l[j+1]<0:=by
    have:=an4.1 h j (aoa.2 (by omega));have:=of_decide_eq_true this;rwa [am8 (by omega),am8 hj] at this
   by_cases e:i=j
   ·subst e;exact hs
   ·exact kL (hl _ (ana hi)) (hl _ (ana hj)) (ih (by omega) (by omega)) hs
 exact h1.nodup
theorem Qd {e:Ev} {n w:Int} (h:dA e n w=0) (hl:∀ x∈e.refs,lv x):e.refs.Nodup:=by
 have h1:jI e (decide (e.kind=1∨e.kind=3)) w=0:=by
  unfold dA at h
  repeat' split at h
  all_goals first | exact h | (exact absurd h (by assumption)) | (exact absurd h (by decide))
 unfold jI at h1
 split at h1
 ·split at h1
  ·have:e.refs = []:=aol.1 (by assumption);rw [this];exact ard
  ·exact absurd h1 (by decide)
 ·split at h1
  ·exact absurd h1 (by decide)
  ·rename_i hc
   exact Hz (by
    cases hb:mN e.refs with
    | true => rfl
    | false => exact absurd (.inr (.inr (.inr hb))) hc) hl
section
variable {n:Nat} {w r:Int} {l:List Ev} {R:List (List Int)} {k:Nat} {V:List Int} {L:List Wn} {C:CL} {X:BL} {out:List Ev} (h:LI n w l R k V L C X out)
include h
theorem LI.room (hR:R.length≤40):uM X≤2400:=by
 have h1:=Jr fun e he=>(h.xr e he).2
 have h2:=tu h.xn (l':=R) fun y hy=>by
  obtain ⟨e,he,rfl⟩:=anb.1 hy;exact (h.xr e he).1
 rw [anf] at h2;omega
theorem LI.wh_add {L':List Wn} (hin:∀ d,inQ V L d→inQ V L' d) {x:Ev} (hx:wh V L C x):wh V L' C x:=by
 have _:=h;rcases hx with hx | ⟨h1,h2⟩
 ·exact .inl hx
 ·rcases hin (dotE x) (.inr h1) with h3 | h3
  ·exact .inl h3
  ·exact .inr ⟨h3,h2⟩
theorem LI.add (hG:ir n l) (hl:l.length≤60) {x:Ev} {s:Int} (hx:x∈l) (hew:EW x) (hr:x.refs.length≤1000000) (h1:1≤s) (h2:s≤n) (h0:uK V L w x s=0) :
  LI n w l R k V (bS V L w x s) C X out∧inQ V (bS V L w x s) (dotE x)∧x.refs.Nodup:=by
 have hg:=h.g.add (s:=s) hew hr;have hc:dA x V.length w=0:=by
  unfold uK at h0
  split at h0
  ·assumption
  ·exact absurd h0 (by assumption)
 have hf:qb V.length x s=true:=by rw [h.g.q.len];exact Qa (hG.fit x hx) h1 h2
 obtain ⟨_,a2,a3,a4⟩:=h.q.add h.g.q (by rw [anf];exact hl) (anb.2 ⟨x,hx,rfl⟩) hf;rw [bS,if_pos hc] at hg ⊢;refine ⟨⟨hg,a2,⟨fun y hy=> ?_,h.o.out⟩,fun y hy=>⟨h.wh_add a4 (h.dn y hy).1,(h.dn y hy).2⟩,h.xn,h.xr⟩,a3,Qd hc fun y hy=>ni (hew.rf y hy)⟩;unfold dB at hy
 split at hy
 ·exact h.o.inL y hy
 ·split at hy
  ·obtain ⟨z,hz,rfl⟩:=anb.1 hy;rw [y8];exact h.o.inL z hz
  ·split at hy
   ·exact h.o.inL y hy
   ·rcases anj.1 ((x9 _ _).subset hy) with rfl | hy
    ·exact ⟨x,hx,rfl⟩
    ·exact h.o.inL y hy
theorem LI.at {d:Int × Int} {y:Wn} (hG:ir n l) (hy:jr d L=some y) {x:Ev} (hx:x∈l) (hd:dotE x=d):nE x=nE y.e:=by
 obtain ⟨h1,h2⟩:=gv hy;obtain ⟨z,hz,h3⟩:=h.o.inL y h1;have h4:=uP h3;have:dotE z=dotE x:=by
  rw [hd,← h2];exact aqq (am7 (·.1) h4) (am7 (·.2.1) h4)
 rw [← hG.emi hz hx this];exact h3
theorem LI.ship (hG:ir n l) (hR:R.length≤40) (hr:100000≤r) {x:Ev} (hx:x∈l) {id xs:List Int} (hi:id∈x.refs) (hiR:id∈R) (hid:idOk id) (hd:dg xs w=id) (hx6:xs.length≤60) :
  (dQ L X (dotE x) id xs w r=0∨dQ L X (dotE x) id xs w r=9) ∧
  (dQ L X (dotE x) id xs w r=0→LI n w l R k V L (uq L C X (dotE x) id xs w r) (ze L X (dotE x) id xs w r) out∧(inQ V L (dotE x)→fq V x.r x.n=true∨((∃ w∈L,dotW w=dotE x)∧id∈cfm (dotE x) (uq L C X (dotE x) id xs w r)))∧∀ d,∀ m∈cfm d C,m∈cfm d (uq L C X (dotE x) id xs w r)):=by
 have hroom:=h.room hR;have hsub:∀ d,∀ m∈cfm d C,m∈cfm d (uq L C X (dotE x) id xs w r):=fun d m hm=>by
  unfold uq;split
  ·by_cases e:d=dotE x
   ·subst e;rw [tx];exact uN.2 (.inr hm)
   ·rw [dD e];exact hm
  ·exact hm
 have hrB:∀ y,jr (dotE x) L=some y→qI L (dotE x) id=true:=fun y hy=>by
  have h1:=h.at hG hy hx Z;exact Au hy (by rw [← (l5 h1).2.2.2.2.2.2.2];exact hi)
 have hput:xm X id xs w r=0∨xm X id xs w r=9:=by
  unfold xm;rw [if_neg (by omega),if_pos hd];cases nj id X with
  | some y => dsimp only; split <;> simp
  | none => dsimp only; rw [if_neg (by omega)]; simp
 refine ⟨?_,fun h0=>⟨⟨h.g.ship hid,h.q,h.o,fun y hy=> ?_,?_,?_⟩,fun hq=> ?_,hsub⟩⟩
 ·unfold dQ;cases hf:jr (dotE x) L with
  | none => exact .inl Z
  | some y =>
   rw [hrB y hf];exact hput
 ·refine ⟨?_,(h.dn y hy).2⟩;rcases (h.dn y hy).1 with hy | ⟨h1,h2⟩
  ·exact .inl hy
  ·exact .inr ⟨h1,fun m hm=>hsub _ _ (h2 m hm)⟩
 ·unfold ze kN
  split
  ·split
   ·rename_i hB
    unfold gG at hB;simp only [anw,Option.isNone_iff_eq_none] at hB;rw [anu,ap8];refine ⟨h.xn,by simp,fun a ha c hc hac=> ?_⟩;have:c=id:=by simpa using hc
    subst this;exact yJ hB.1 (hac▸ha)
   ·exact h.xn
  ·exact h.xn
 ·intro e he;unfold ze kN at he
  split at he
  ·split at he
   ·rcases anr.1 he with he | he
    ·exact h.xr e he
    ·rw [anc.1 he];exact ⟨hiR,hx6⟩
   ·exact h.xr e he
  ·exact h.xr e he
 ·rcases hq with hq | ⟨y,hy,hyd⟩
  ·exact .inl hq
  ·refine .inr ⟨⟨y,hy,hyd⟩,?_⟩;have hf:=bP h.g.q.nd hy hyd;have hB:=hrB y hf;by_cases hc:id∈cfm (dotE x) C
   ·exact hsub _ _ hc
   ·have hp:xm X id xs w r=0:=by
     unfold dQ at h0;rw [hf,hB] at h0;exact h0
    rw [uq,if_pos (by
     unfold zd;rw [hB,hp];simp [hc]),tx]
    exact uN.2 Zl
theorem LI.one {d:Int × Int} {q:List (Int × Int)} (hr:n9 V L C=d::q):LI n w l R k (lg V d.1 d.2) (bQ d L) (mW d C) X (out ++ [wQ d L]):=by
 obtain ⟨h1,_,_⟩:=h.g.one hr;have hm:d∈n9 V L C:=by rw [hr];exact anl
 obtain ⟨hm1,hm2⟩:=anx.1 hm;obtain ⟨y,hy,hle,rfl⟩:=iB h.g.q hm1;have hym:=(gv hy).1;have hev:wQ (dotW y) L=nE y.e:=by rw [wQ,hy]
 rw [hev];have hqp:=h.q.deliver h.g.q hym hle (e:=nE y.e) Z ((h.g.q.ew y hym).own _ _);refine ⟨h1,hqp,⟨fun z hz=>h.o.inL z (bR.1 hz).1,fun e he=> ?_⟩,fun x hx=> ?_,h.xn,h.xr⟩
 ·rcases anr.1 he with he | he
  ·exact h.o.out e he
  ·rw [anc.1 he];exact h.o.inL y hym
 ·refine ⟨?_,(h.dn x hx).2⟩;rcases (h.dn x hx).1 with h2 | ⟨h2,h3⟩
  ·obtain ⟨r1,r2,r3,r4,r5⟩:=h.g.q.ripe hym hle;exact .inl (y9 (mV r1 r2 (by show atL V y.e.r≤y.e.n;omega)) h2)
  ·rcases Ea h.g.q hym hle (.inr h2) with h4 | ⟨z,hz,hzd⟩
   ·exact .inl h4
   ·refine .inr ⟨⟨z,hz,hzd⟩,fun m hm=> ?_⟩;have hne:=(bR.1 hz).2;rw [hzd] at hne;rw [vd hne];exact h3 m hm
end
theorem LI.dlv {n:Nat} {w:Int} {l:List Ev} {R:List (List Int)} {k:Nat} {X:BL}:∀ (j:Nat) {V:List Int} {L:List Wn} {C:CL} {out:List Ev},LI n w l R k V L C X out→LI n w l R k (dlv j V L C).2.1 (dlv j V L C).2.2.1 (dlv j V L C).2.2.2 X (out++(dlv j V L C).1)
 | 0, V, L, C, out, h => by
  show LI n w l R k V L C X (out ++ []);rw [anv];exact h
 | j + 1, V, L, C, out, h => by
  cases hr:n9 V L C with
  | nil =>
   rw [uL hr];show LI n w l R k V L C X (out ++ []);rw [anv];exact h
  | cons d q =>
   have:=LI.dlv j (h.one hr);rw [anh] at this;rw [Hr hr];exact this
theorem LI.dlvG {n:Nat} {w:Int} {l:List Ev} {R:List (List Int)} {k:Nat} {X:BL} {V:List Int} {L:List Wn} {C:CL} {out:List Ev} (h:LI n w l R k V L C X out):LI n w l R k (u9 V L C).2.1 (u9 V L C).2.2.1 (u9 V L C).2.2.2 X (out++(u9 V L C).1):=LI.dlv L.length h
theorem LI.next {n:Nat} {w:Int} {l:List Ev} {R:List (List Int)} {k:Nat} {V:List Int} {L:List Wn} {C:CL} {X:BL} {out:List Ev} (h:LI n w l R k V L C X out) (hk:k<l.length) (h1:wh V L C l[k]) (h2:l[k].refs.Nodup):LI n w l R (k+1) V L C X out :=
 ⟨h.g,h.q,h.o,fun x hx=>by
  rw [ang hk] at hx;rcases anr.1 hx with hx | hx
  ·exact h.dn x hx
  ·rw [anc.1 hx];exact ⟨h1,h2⟩,h.xn,h.xr⟩
theorem LI.start {n:Nat} {w:Int} (l:List Ev) (R:List (List Int)) (h1:1≤n) (h2:n≤16):LI n w l R 0 (List.replicate n 0) [] [] [] [] :=
 ⟨GI.start h1 h2 [],⟨fun w hw=>(by cases hw),fun w hw=>(by cases hw),fun w hw=>(by cases hw),fun w hw=>(by cases hw),fun q m hm=>by
  obtain ⟨a1,a2,a3⟩:=mt.1 hm;have:atL (List.replicate n 0) q=0:=by
   unfold atL;split
   ·unfold nn;rw [ano,List.getElem?_replicate];split <;> simp
   ·rfl
  omega,List.Pairwise.nil,fun w hw=>(by cases hw),fun w hw=>(by cases hw)⟩,⟨fun w hw=>(by cases hw),fun w hw=>(by cases hw)⟩,fun x hx=>(by simp at hx),ard,fun e he=>(by cases he)⟩
theorem LI.fin {n:Nat} {w:Int} {l:List Ev} {R:List (List Int)} {V:List Int} {L:List Wn} {C:CL} {X:BL} {out:List Ev} (h:LI n w l R l.length V L C X out) (hG:ir n l) (hr:n9 V L C = []):L = []:=by
 have hd:∀ x∈l,wh V L C x∧x.refs.Nodup:=fun x hx=>h.dn x (by rw [an7];exact hx)
 refine Qc hG h.g.q h.o (fun x hx=> ?_) (fun y hy=> ?_) hr
 ·rcases (hd x hx).1 with h1 | ⟨h1,_⟩
  ·exact .inl h1
  ·exact .inr h1
 ·obtain ⟨x,hx,hxe⟩:=h.o.inL y hy;have he:=uP hxe;have hdd:dotE x=dotW y:=aqq (am7 (·.1) he) (am7 (·.2.1) he);have hrf:x.refs=y.e.refs:=(l5 hxe).2.2.2.2.2.2.2;have hf:=bP h.g.q.nd hy Z;obtain ⟨h1,h2⟩:=hd x hx;have hin:∀ m∈x.refs,m∈cfm (dotW y) C:=by
   rcases h1 with h1 | ⟨_,h1⟩
   ·have h3:=h.g.q.new y hy;have e1:x.r=y.e.r:=am7 (·.1) he;have e2:x.n=y.e.n:=am7 (·.2.1) he;rw [← e1,← e2,h1] at h3;cases h3
   ·rw [← hdd];exact h1
  have l1:=tu h2 hin;have l2:=tu (l:=cfm (dotW y) C) (l':=y.e.refs) (h.g.rise _).nodup fun m hm=>by
   obtain ⟨z,hz,hm'⟩:=yb (h.g.ref _ m hm);rw [hf] at hz;cases hz;exact hm'
  rw [hrf] at l1;omega
section
variable {n:Nat} {w:Int} {l:List Ev} {R:List (List Int)} {k:Nat} {V:List Int} {L:List Wn} {C:CL} {X:BL} {out:List Ev} (h:LI n w l R k V L C X out) (hG:ir n l)
include h hG
theorem LI.dots_out:(out.map dotE).Nodup:=by
 have _:=hG;rw [aqp,ap7];exact h.q.ord.imp fun {a c} h hc=>h.2 ⟨am7 Prod.fst hc,am7 Prod.snd hc⟩
theorem LI.cut (e:Ev):e∈(l.filter fun x=>fq V x.r x.n).map nE↔e∈out.map nE:=by
 constructor
 ·intro he;obtain ⟨x,hx,rfl⟩:=anb.1 he;obtain ⟨hx1,hx2⟩:=anx.1 hx;obtain ⟨y,hy,h1,h2⟩:=h.q.del _ _ hx2;obtain ⟨z,hz,h3⟩:=h.o.out y hy;have h4:=uP h3;have:dotE z=dotE x:=aqq ((am7 (·.1) h4).trans h1) ((am7 (·.2.1) h4).trans h2);rw [← hG.emi hz hx1 this,h3];exact anb.2 ⟨y,hy,rfl⟩
 ·intro he;obtain ⟨y,hy,rfl⟩:=anb.1 he;obtain ⟨z,hz,h3⟩:=h.o.out y hy;have h4:=uP h3;have e1:z.r=y.r:=am7 (·.1) h4;have e2:z.n=y.n:=am7 (·.2.1) h4;exact anb.2 ⟨z,anx.2 ⟨hz,by rw [e1,e2];exact h.q.und y hy⟩,h3⟩
theorem LI.cutG:ir n (l.filter fun x=>fq V x.r x.n):=by
 have hs:∀ x∈l.filter fun x=>fq V x.r x.n,x∈l:=fun x hx=>(anx.1 hx).1
 refine ⟨hG.n1,hG.n2,fun x hx=>hG.fit x (hs x hx),fun x hx=>hG.kind x (hs x hx),fun x hx=>hG.repo x (hs x hx),fun x hx=>hG.tag x (hs x hx),(arg.map dotE).nodup hG.nd,fun e he i hi h0=> ?_⟩;obtain ⟨f,hf,h1,h2⟩:=hG.dep e (hs e he) i hi h0;refine ⟨f,anx.2 ⟨hf,?_⟩,h1,h2⟩;have hm:=(h.cut hG (nE e)).1 (anb.2 ⟨e,he,rfl⟩);obtain ⟨y,hy,hye⟩:=anb.1 hm;have hle:=h.q.dl y hy;have hde:y.deps=e.deps:=(l5 hye).2.2.1;rw [hde] at hle;have h3:=(qx _ _).1 hle i;obtain ⟨a1,a2,a3,a4,a5,a6,a7⟩:=vi (hG.fit e (hs e he));rw [pU a6 hi] at h3;have h5:=a6 _ (ana hi);have e1:f.r=(i:Int)+1:=am7 Prod.fst h1;have e2:f.n=e.deps[i]:=am7 Prod.snd h1;have hiV:i<V.length:=by rw [h.g.q.len,← a5];exact hi
 exact mt.2 ⟨by omega,by omega,by rw [atL,if_pos (by omega),e1,show ((i:Int)+1 - 1).toNat=i by omega,e2];exact h3⟩
theorem LI.full (hL:L = []) (hk:k=l.length):out.length=l.length∧∀ e,e∈l.map nE↔e∈out.map nE:=by
 subst hk;have hall:∀ x∈l,fq V x.r x.n=true:=fun x hx=>by
  rcases (h.dn x (by rw [an7];exact hx)).1 with h1 | ⟨⟨y,hy,_⟩,_⟩
  ·exact h1
  ·rw [hL] at hy;cases hy
 have hf:(l.filter fun x=>fq V x.r x.n)=l:=aom.2 hall;have hc:=h.cut hG;rw [hf] at hc;refine ⟨?_,hc⟩;have hd:∀ d,d∈l.map dotE↔d∈out.map dotE:=fun d=>by
  have key:∀ {A B:List Ev},(∀ e,e∈A.map nE→e∈B.map nE)→d∈A.map dotE→d∈B.map dotE:=fun {A B} hAB hd=>by
   obtain ⟨x,hx,rfl⟩:=anb.1 hd;obtain ⟨y,hy,hye⟩:=anb.1 (hAB (nE x) (anb.2 ⟨x,hx,rfl⟩));have h4:=uP hye;exact anb.2 ⟨y,hy,aqq (am7 (·.1) h4) (am7 (·.2.1) h4)⟩
  exact ⟨key fun e=>(hc e).1,key fun e=>(hc e).2⟩
 have l1:=tu (h.dots_out hG) fun d hd'=>(hd d).2 hd'
 have l2:=tu hG.nd fun d hd'=>(hd d).1 hd'
 rw [anf,anf] at l1 l2;omega
end
theorem qk.nE {D:List Ev} {p:Pl} {h:Hd}:qk (D.map nE) p h↔qk D p h:=by
 constructor
 ·rintro ⟨x,hx,h1,h2,h3⟩;obtain ⟨y,hy,rfl⟩:=anb.1 hx;exact ⟨y,hy,h1,h2,fun e he=>h3 (Go.Proofs.YtbpdffopjkhelaaGreat.nE e) (anb.2 ⟨e,he,rfl⟩)⟩
 ·rintro ⟨y,hy,h1,h2,h3⟩;refine ⟨Go.Proofs.YtbpdffopjkhelaaGreat.nE y,anb.2 ⟨y,hy,rfl⟩,h1,h2,fun e he=> ?_⟩;obtain ⟨z,hz,rfl⟩:=anb.1 he;exact h3 z hz
theorem ir.of {n:Nat} {l m:List Ev} (h:ir n l) (hp:(m.map nE).Perm (l.map nE)):ir n m:=by
 have key:∀ e∈m,∃ x∈l,nE x=nE e:=fun e he=>by
  obtain ⟨x,hx,h1⟩:=anb.1 (hp.subset (anb.2 ⟨e,he,rfl⟩));exact ⟨x,hx,h1⟩
 have key2:∀ e∈l,∃ x∈m,nE x=nE e:=fun e he=>by
  obtain ⟨x,hx,h1⟩:=anb.1 (hp.symm.subset (anb.2 ⟨e,he,rfl⟩));exact ⟨x,hx,h1⟩
 refine ⟨h.n1,h.n2,fun e he=> ?_,fun e he=> ?_,fun e he=> ?_,fun e he=> ?_,?_,fun e he i hi h0=> ?_⟩
 ·obtain ⟨x,hx,h1⟩:=key e he;have:=h.fit x hx;have h2:qb n (nE x) 1=qb n (nE e) 1:=by rw [h1]
  exact h2.symm.trans this
 ·obtain ⟨x,hx,h1⟩:=key e he;rw [← ((l5 h1).2.2.2.1:x.kind=e.kind)];exact h.kind x hx
 ·obtain ⟨x,hx,h1⟩:=key e he;rw [← ((l5 h1).2.2.2.2.1:x.repo=e.repo)];exact h.repo x hx
 ·obtain ⟨x,hx,h1⟩:=key e he;rw [← ((l5 h1).2.2.2.1:x.kind=e.kind),← ((l5 h1).2.2.2.2.2.1:x.tag=e.tag)];exact h.tag x hx
 ·have e1:∀ l:List Ev,l.map dotE=(l.map nE).map dotE:=fun l=>by rw [apk];rfl
  rw [e1,(hp.map dotE).nodup_iff,← e1];exact h.nd
 ·obtain ⟨x,hx,h1⟩:=key e he;have hd:x.deps=e.deps:=(l5 h1).2.2.1;obtain ⟨f,hf,h2,h3⟩:=h.dep x hx i (by rw [hd];exact hi) (by simp only [hd];exact h0);obtain ⟨g,hg,h4⟩:=key2 f hf;have e2:dotE g=dotE f:=aqq ((l5 h4).1) ((l5 h4).2.1);refine ⟨g,hg,?_,?_⟩
  ·rw [e2,h2];simp only [hd]
  ·rw [((l5 h4).2.2.1:g.deps=f.deps),← hd];exact h3

def mxG (i:Nat):List Ev→Int
 | [] => 0
 | e :: l => if e.r = (i : Int) + 1 then max (mxG i l) e.n else mxG i l
def r9 (n:Nat) (l:List Ev):List Int:=(List.range n).map fun i=>mxG i l
theorem Js (i:Nat):∀ (l:List Ev) (e:Ev),mxG i (l ++ [e])=if e.r=(i:Int)+1 then max (mxG i l) e.n else mxG i l
 | [], e => rfl
 | x :: l, e => by
  rw [aoe,mxG,mxG,Js i l e]
  split <;> split <;> omega
theorem Zn {i:Nat} {m:Int}:∀ {l:List Ev},(∀ e∈l,e.r=(i:Int)+1→e.n≤m)→(m=0∨∃ e∈l,e.r=(i:Int)+1∧e.n=m)→0≤m→mxG i l=m
 | [], _, h, _ => by
  rcases h with h | ⟨e,he,_⟩
  ·exact h.symm
  ·cases he
 | x :: l, h1, h2, h3 => by
  have ih1:∀ e∈l,e.r=(i:Int)+1→e.n≤m:=fun e he=>h1 e (ank _ he)
  have hub:∀ {l:List Ev},(∀ e∈l,e.r=(i:Int)+1→e.n≤m)→mxG i l≤m:=fun {l}=>by
   induction l with
   | nil => intro _; exact h3
   | cons y l ih =>
    intro h;have:=ih fun e he=>h e (ank _ he)
    have h4:=h y anl;rw [mxG];split
    ·have:=h4 (by assumption);omega
    ·exact this
  have hlb:∀ {l:List Ev} {e:Ev},e∈l→e.r=(i:Int)+1→e.n≤mxG i l:=fun {l}=>by
   induction l with
   | nil => intro e he; cases he
   | cons y l ih =>
    intro e he hr;rw [mxG];rcases anj.1 he with rfl | he
    ·rw [if_pos hr];omega
    ·have:=ih he hr
     split <;> omega
  have h4:=hub h1;rcases h2 with h2 | ⟨e,he,hr,hn⟩
  ·have h5:0≤mxG i (x::l):=by
    have key:∀ l:List Ev,0≤mxG i l:=fun l=>by
     induction l with
     | nil => exact aql _
     | cons y l ih => rw [mxG]; split <;> omega
    exact key _
   omega
  ·have h5:=hlb he hr;omega
theorem LI.vec {n:Nat} {w:Int} {l:List Ev} {R:List (List Int)} {k:Nat} {V:List Int} {L:List Wn} {C:CL} {X:BL} {out D:List Ev} (h:LI n w l R k V L C X out) (hD:∀ e,e∈D.map nE↔e∈out.map nE):r9 n D=V:=by
 have hl:=h.g.q.len;refine aqr (by rw [r9,anf,aq9,hl]) fun i hi hi2=> ?_;have hv:=h.g.q.num _ (ana hi2);have hat:atL V ((i:Int)+1)=V[i]:=by
  rw [atL,if_pos (by omega),show ((i:Int)+1 - 1).toNat=i by omega,pU h.g.q.num hi2]
 have e1:(r9 n D)[i]=mxG i D:=by simp [r9]
 rw [e1];refine Zn (fun e he hr=> ?_) ?_ hv.1
 ·obtain ⟨y,hy,hye⟩:=anb.1 ((hD (nE e)).1 (anb.2 ⟨e,he,rfl⟩));have h1:=(mt.1 (h.q.und y hy)).2.2;rw [((l5 hye).1:y.r=e.r),((l5 hye).2.1:y.n=e.n),hr,hat] at h1;exact h1
 ·by_cases h0:V[i]=0
  ·exact .inl h0
  ·obtain ⟨y,hy,h1,h2⟩:=h.q.del ((i:Int)+1) V[i] (mt.2 ⟨by omega,by omega,by omega⟩);obtain ⟨e,he,hee⟩:=anb.1 ((hD (nE y)).2 (anb.2 ⟨y,hy,rfl⟩));exact .inr ⟨e,he,by rw [((l5 hee).1:e.r=y.r),h1],by rw [((l5 hee).2.1:e.n=y.n),h2]⟩
theorem Qe {n:Nat} {l:List Ev} {e:Ev} (he:e∈l) (h1:1≤e.r) (h2:e.r≤n) (h3:1≤e.n):fq (r9 n l) e.r e.n=true:=by
 refine mt.2 ⟨h1,h3,?_⟩;have hl:(r9 n l).length=n:=by rw [r9,anf,aq9]
 have hi:(e.r - 1).toNat<(r9 n l).length:=by omega
 rw [atL,if_pos (by omega)];have hlb:∀ {l:List Ev},e∈l→e.n≤mxG (e.r - 1).toNat l:=fun {l}=>by
  induction l with
  | nil => intro he; cases he
  | cons y l ih =>
   intro he;rw [mxG];rcases anj.1 he with rfl | he
   ·rw [if_pos (by omega)];omega
   ·have:=ih he
    split <;> omega
 have:=hlb he;unfold nn;rw [jz hi];have e1:(r9 n l)[(e.r - 1).toNat]=mxG (e.r - 1).toNat l:=by simp [r9]
 rw [e1];omega
theorem Us {n:Nat} {l:List Ev} (h:∀ e∈l,0≤e.n∧e.n≤1048576):tf (r9 n l):=fun x hx=>by
 obtain ⟨i,_,rfl⟩:=anb.1 hx
 induction l with
 | nil => exact ⟨aql _, by show (0 : Int) ≤ _; omega⟩
 | cons y l ih =>
  have h1:=h y anl;have h2:=ih (fun e he=>h e (ank _ he)) (anb.2 ⟨i,by assumption,rfl⟩);rw [mxG]
  split <;> omega
def mY (r:RP):List (Int × Int):=(r.ts.flatMap fun g=>g.hs.map (·.d))++r.ms.map (·.d)
def jJ (l:List RP):List (Int × Int):=l.flatMap mY
structure Tok (t:TB):Prop where
 n1:1≤t.V.length
 n2:t.V.length≤16
 vo:tf t.V
 nm:∀ r∈t.rs,mo (fe r.nm)=(0,0)∧∀ g∈r.ts,po (fe g.nm)=(0,0)
 rs:ve t.rs
 nd:(jJ t.rs).Nodup
 has:∀ d∈jJ t.rs,fq t.V d.1 d.2=true
theorem iF {l:List RP} (h:ve l) {r:RP} (hr:r∈l) {g:TG} (hg:g∈r.ts):atP ⟨r.nm,some g.nm⟩ l=g.hs:=by
 rw [xz h.rs hr rfl];exact bT (h.ok r hr).ts hg
theorem Ax {l:List RP} (h:ve l) {r:RP} (hr:r∈l):atP ⟨r.nm,none⟩ l=r.ms:=xz h.rs hr Z
theorem yK {l:List RP} (h:ve l) {d:Int × Int} (hd:d∈jJ l):∃ p,∃ x∈atP p l,x.d=d:=by
 obtain ⟨r,hr,hd⟩:=aq2.1 hd;rcases anr.1 hd with hd | hd
 ·obtain ⟨g,hg,hd⟩:=aq2.1 hd;obtain ⟨x,hx,rfl⟩:=anb.1 hd;exact ⟨_,x,by rw [iF h hr hg];exact hx,rfl⟩
 ·obtain ⟨x,hx,rfl⟩:=anb.1 hd;exact ⟨_,x,by rw [Ax h hr];exact hx,rfl⟩
theorem yL {l:List Hd} (h:nk l):(l.map (·.d)).Nodup:=by
 rw [aqp,ap7];exact h.imp fun {a c} hac he=>by rw [he] at hac;exact Jp _ hac
theorem W5 {α:Type} {f:α→ByteArray} {l:List α} (h:l.Pairwise fun a b=>cbN (f a) (f b)<0):l.Pairwise fun a b=>f a≠f b:=h.imp fun {a c} hac he=>by
 rw [he,lp] at hac;omega
theorem TI.nodup {n:Nat} {D:List Ev} {t:TB} (h:TI n D t):(jJ t.rs).Nodup:=by
 have hrs:=h.rs;have one:∀ {p q:Pl} {x y:Hd},x∈atP p t.rs→y∈atP q t.rs→x.d=y.d→p=q:=fun hx hy he=>(h.one hx hy he).1
 rw [aqp];refine List.pairwise_flatMap.2 ⟨fun r hr=> ?_,(W5 hrs.rs).imp_of_mem fun {r r'} hr hr' hne=> ?_⟩
 ·have hok:=hrs.ok r hr;refine aof.2 ⟨List.pairwise_flatMap.2 ⟨fun g hg=>yL (hok.th g hg).2,(W5 hok.ts).imp_of_mem fun {g g'} hg hg' hne=> ?_⟩,yL hok.ms,fun d hd d' hd' he=> ?_⟩
  ·intro d hd d' hd' he;obtain ⟨x,hx,rfl⟩:=anb.1 hd;obtain ⟨y,hy,rfl⟩:=anb.1 hd';rw [← iF hrs hr hg] at hx;rw [← iF hrs hr hg'] at hy;have:=one hx hy he;exact hne (ao5 (am7 Pl.tag this))
  ·obtain ⟨g,hg,hd⟩:=aq2.1 hd;obtain ⟨x,hx,rfl⟩:=anb.1 hd;obtain ⟨y,hy,rfl⟩:=anb.1 hd';rw [← iF hrs hr hg] at hx;rw [← Ax hrs hr] at hy;have:=am7 Pl.tag (one hx hy he);cases this
 ·intro d hd d' hd' he;have key:∀ {r:RP} {d:Int × Int},r∈t.rs→d∈mY r→∃ p,∃ x∈atP p t.rs,x.d=d∧p.repo=r.nm:=fun {r d} hr hd=>by
   rcases anr.1 hd with hd | hd
   ·obtain ⟨g,hg,hd⟩:=aq2.1 hd;obtain ⟨x,hx,rfl⟩:=anb.1 hd;exact ⟨_,x,by rw [iF hrs hr hg];exact hx,rfl,rfl⟩
   ·obtain ⟨x,hx,rfl⟩:=anb.1 hd;exact ⟨_,x,by rw [Ax hrs hr];exact hx,rfl,rfl⟩
  obtain ⟨p,x,hx,h1,h2⟩:=key hr hd;obtain ⟨q,y,hy,h3,h4⟩:=key hr' hd';have:=one hx hy (by rw [h1,h3,he]);subst this;exact hne (h2.symm.trans h4)
theorem TI.tok {n:Nat} {D:List Ev} {t:TB} (h:TI n D t) (h1:1≤n) (h2:n≤16) (hD:∀ e∈D,mo (fe e.repo)=(0,0)∧(e.kind=3→po (fe e.tag)=(0,0))):Tok t:=by
 have hrs:=h.rs;refine ⟨by rw [h.vl];exact h1,by rw [h.vl];exact h2,h.vo,fun r hr=> ?_,hrs,h.nodup,fun d hd=> ?_⟩
 ·have hok:=hrs.ok r hr;have tg:∀ g∈r.ts,mo (fe r.nm)=(0,0)∧po (fe g.nm)=(0,0):=fun g hg=>by
   obtain ⟨x,hx⟩:=apx _ (hok.th g hg).1;rw [← iF hrs hr hg] at hx;obtain ⟨e,he,ha,_⟩:=(h.at_ _ _).1 hx;rcases ha with ⟨_,hp⟩ | ⟨hk,hp⟩
   ·cases am7 Pl.tag hp
   ·have e1:r.nm=e.repo:=am7 Pl.repo hp;have e2:g.nm=e.tag:=ao5 (am7 Pl.tag hp);rw [e1,e2];exact ⟨(hD e he).1,(hD e he).2 hk⟩
  refine ⟨?_,fun g hg=>(tg g hg).2⟩;rcases hok.ne with hne | hne
  ·obtain ⟨g,hg⟩:=apx _ hne;exact (tg g hg).1
  ·obtain ⟨x,hx⟩:=apx _ hne;rw [← Ax hrs hr] at hx;obtain ⟨e,he,ha,_⟩:=(h.at_ _ _).1 hx;rcases ha with ⟨_,hp⟩ | ⟨hk,hp⟩
   ·rw [show r.nm=e.repo from am7 Pl.repo hp];exact (hD e he).1
   ·cases am7 Pl.tag hp
 ·obtain ⟨p,x,hx,rfl⟩:=yK hrs hd;exact h.dots hx

structure RPw (r:RP):Prop where
 ts:r.ts.Pairwise fun a b=>cbN a.nm b.nm<0
 th:∀ g∈r.ts,nk g.hs
 ms:nk r.ms
structure RSw (l:List RP):Prop where
 rs:l.Pairwise fun a b=>cbN a.nm b.nm<0
 ok:∀ r∈l,RPw r
theorem ve.w {l:List RP} (h:ve l):RSw l:=⟨h.rs,fun r hr=>⟨(h.ok r hr).ts,fun g hg=>((h.ok r hr).th g hg).2,(h.ok r hr).ms⟩⟩
def gI (l:List TG):List TG:=l.filter fun g=> !decide (g.hs.length=0)
def uR (l:List RP):List RP:=(l.map fun r=>(⟨r.nm,gI r.ts,r.ms⟩:RP)).filter fun r=> !decide (r.ts.length+r.ms.length=0)
theorem bV {s:ByteArray} {g:TG} {B:List TG}:∀ {A:List TG},(∀ x∈A,x.nm≠g.nm)→m7 s (A++g::B)=if g.nm=s then g.hs else m7 s (A++B)
 | [], _ => rfl
 | x :: A, h => by
  have ih:=bV (s:=s) (g:=g) (B:=B) (A:=A) fun y hy=>h y (ank _ hy)
  have hx:=h x anl;rw [aoe,m7,ih,aoe,m7];by_cases h1:x.nm=s
  ·rw [if_pos h1,if_pos h1,if_neg fun h2=>hx (h1.trans h2.symm)]
  ·rw [if_neg h1,if_neg h1]
theorem vj {p:Pl} {r:RP} {B:List RP}:∀ {A:List RP},(∀ x∈A,x.nm≠r.nm)→atP p (A++r::B)=if r.nm=p.repo then zf p r else atP p (A++B)
 | [], _ => rfl
 | x :: A, h => by
  have ih:=vj (p:=p) (r:=r) (B:=B) (A:=A) fun y hy=>h y (ank _ hy)
  have hx:=h x anl;rw [aoe,atP,ih,aoe,atP];by_cases h1:x.nm=p.repo
  ·rw [if_pos h1,if_pos h1,if_neg fun h2=>hx (h1.trans h2.symm)]
  ·rw [if_neg h1,if_neg h1]
theorem bW {α:Type} {f:α→ByteArray} {A B:List α} {r:α} (h:(A++r::B).Pairwise fun a b=>cbN (f a) (f b)<0):(∀ x∈A,f x≠f r)∧∀ x∈A++B,f x≠f r:=by
 obtain ⟨_,h2,h3⟩:=aof.1 h;have k1:∀ x∈A,f x≠f r:=fun x hx he=>by
  have:=h3 x hx r anl;rw [he,lp] at this;omega
 refine ⟨k1,fun x hx=> ?_⟩;rcases anr.1 hx with hx | hx
 ·exact k1 x hx
 ·intro he;have:=(aod.1 h2).1 x hx;rw [he,lp] at this;omega
theorem Ay {α:Type} {f:α→ByteArray} {A B:List α} {r r':α} (h:(A++r::B).Pairwise fun a b=>cbN (f a) (f b)<0) (he:f r'=f r):(A++r'::B).Pairwise fun a b=>cbN (f a) (f b)<0:=by
 obtain ⟨h1,h2,h3⟩:=aof.1 h;obtain ⟨h4,h5⟩:=aod.1 h2;refine aof.2 ⟨h1,aod.2 ⟨fun x hx=>by rw [he];exact h4 x hx,h5⟩,fun a ha c hc=> ?_⟩;rcases anj.1 hc with rfl | hc
 ·rw [he];exact h3 a ha r anl
 ·exact h3 a ha c (ank _ hc)
theorem Qf {α:Type} {f:α→ByteArray} {A B:List α} {r:α} (h:(A++B).Pairwise fun a b=>cbN (f a) (f b)<0) (h1:∀ x∈A,cbN (f x) (f r)<0) (h2:∀ x∈B,cbN (f r) (f x)<0):(A++r::B).Pairwise fun a b=>cbN (f a) (f b)<0:=by
 obtain ⟨k1,k2,k3⟩:=aof.1 h;refine aof.2 ⟨k1,aod.2 ⟨h2,k2⟩,fun a ha c hc=> ?_⟩;rcases anj.1 hc with rfl | hc
 ·exact h1 a ha
 ·exact k3 a ha c hc
theorem Er {A B:List RP} {s:ByteArray} (h:RSw (A++B)) (h1:∀ x∈A,cbN x.nm s<0) (h2:∀ x∈B,cbN s x.nm<0):RSw (A++⟨s,[],[]⟩::B)∧∀ p,atP p (A++⟨s,[],[]⟩::B)=atP p (A++B):=by
 have hp:=Qf (f:=RP.nm) (r:=(⟨s,[],[]⟩:RP)) h.rs h1 h2;refine ⟨⟨hp,fun r hr=> ?_⟩,fun p=> ?_⟩
 ·rcases anr.1 hr with hr | hr
  ·exact h.ok r (an5 _ hr)
  ·rcases anj.1 hr with rfl | hr
   ·exact ⟨List.Pairwise.nil,fun g hg=>(by cases hg),List.Pairwise.nil⟩
   ·exact h.ok r (aoj _ hr)
 ·obtain ⟨k1,k2⟩:=bW (f:=RP.nm) hp;rw [vj k1]
  split
  ·rename_i he
   rw [gH fun x hx hxp=>k2 x hx (hxp.trans he.symm)];unfold zf;cases p.tag <;> rfl
  ·rfl
theorem Qg {A B:List RP} {r:RP} {m:List Hd} (h:RSw (A++r::B)) (hm:nk m):RSw (A++⟨r.nm,r.ts,m⟩::B)∧∀ p,atP p (A++⟨r.nm,r.ts,m⟩::B)=if p=⟨r.nm,none⟩ then m else atP p (A++r::B):=by
 have hp:=Ay (f:=RP.nm) (r':=(⟨r.nm,r.ts,m⟩:RP)) h.rs Z;have hr:=h.ok r (by simp);refine ⟨⟨hp,fun x hx=> ?_⟩,fun p=> ?_⟩
 ·rcases anr.1 hx with hx | hx
  ·exact h.ok x (an5 _ hx)
  ·rcases anj.1 hx with rfl | hx
   ·exact ⟨hr.ts,hr.th,hm⟩
   ·exact h.ok x (aoj _ (ank _ hx))
 ·rw [vj (bW (f:=RP.nm) hp).1,vj (bW (f:=RP.nm) h.rs).1];obtain ⟨pr,pt⟩:=p;dsimp only;by_cases he:r.nm=pr
  ·subst he;rw [if_pos rfl,if_pos rfl];cases pt with
   | none => rw [if_pos rfl]; rfl
   | some t => rw [if_neg (fun hc => by cases am7 Pl.tag hc)]; rfl
  ·rw [if_neg he,if_neg he,if_neg fun hc=>he (am7 Pl.repo hc).symm]
theorem W6 {A B:List RP} {r:RP} {ts:List TG} (h:RSw (A++r::B)) (h1:ts.Pairwise fun a b=>cbN a.nm b.nm<0) (h2:∀ g∈ts,nk g.hs):RSw (A++⟨r.nm,ts,r.ms⟩::B)∧∀ p,atP p (A++⟨r.nm,ts,r.ms⟩::B)=match p.tag with
  | some t => if r.nm = p.repo then m7 t ts else atP p (A ++ r :: B)
  | none => atP p (A ++ r :: B) := by
 have hp:=Ay (f:=RP.nm) (r':=(⟨r.nm,ts,r.ms⟩:RP)) h.rs Z;have hr:=h.ok r (by simp);refine ⟨⟨hp,fun x hx=> ?_⟩,fun p=> ?_⟩
 ·rcases anr.1 hx with hx | hx
  ·exact h.ok x (an5 _ hx)
  ·rcases anj.1 hx with rfl | hx
   ·exact ⟨h1,h2,hr.ms⟩
   ·exact h.ok x (aoj _ (ank _ hx))
 ·rw [vj (bW (f:=RP.nm) hp).1,vj (bW (f:=RP.nm) h.rs).1];obtain ⟨pr,pt⟩:=p;dsimp only;cases pt with
  | none =>
   dsimp only;by_cases he:r.nm=pr
   ·rw [if_pos he,if_pos he];rfl
   ·rw [if_neg he,if_neg he]
  | some t =>
   dsimp only;by_cases he:r.nm=pr
   ·rw [if_pos he,if_pos he];rfl
   ·rw [if_neg he,if_neg he,if_neg he]
theorem Jt {A B:List RP} {r:RP} {A2 B2:List TG} {s:ByteArray} (h:RSw (A++r::B)) (hr:r.ts=A2++B2) (h1:∀ x∈A2,cbN x.nm s<0) (h2:∀ x∈B2,cbN s x.nm<0):RSw (A++⟨r.nm,A2++⟨s,[]⟩::B2,r.ms⟩::B)∧∀ p,atP p (A++⟨r.nm,A2++⟨s,[]⟩::B2,r.ms⟩::B)=atP p (A++r::B):=by
 have hk:=h.ok r (by simp);have hts:=hk.ts;rw [hr] at hts;have hp:=Qf (f:=TG.nm) (r:=(⟨s,[]⟩:TG)) hts h1 h2;obtain ⟨k1,k2⟩:=W6 h hp (fun g hg=>by
  rcases anr.1 hg with hg | hg
  ·exact hk.th g (by rw [hr];exact an5 _ hg)
  ·rcases anj.1 hg with rfl | hg
   ·exact List.Pairwise.nil
   ·exact hk.th g (by rw [hr];exact aoj _ hg))
 refine ⟨k1,fun p=> ?_⟩;rw [k2];obtain ⟨pr,pt⟩:=p;cases pt with
 | none => rfl
 | some t =>
  dsimp only
  split
  ·rename_i he
   rw [vj (bW (f:=RP.nm) h.rs).1,if_pos he];show _=m7 t r.ts;obtain ⟨q1,q2⟩:=bW (f:=TG.nm) hp;rw [bV q1,hr]
   split
   ·rename_i hst
    rw [zg fun x hx hxt=>q2 x hx (hxt.trans hst.symm)]
   ·rfl
  ·rfl
theorem W7 {A B:List RP} {r:RP} {A2 B2:List TG} {g:TG} {m:List Hd} (h:RSw (A++r::B)) (hr:r.ts=A2++g::B2) (hm:nk m):RSw (A++⟨r.nm,A2++⟨g.nm,m⟩::B2,r.ms⟩::B)∧∀ p,atP p (A++⟨r.nm,A2++⟨g.nm,m⟩::B2,r.ms⟩::B)=if p=⟨r.nm,some g.nm⟩ then m else atP p (A++r::B):=by
 have hk:=h.ok r (by simp);have hts:=hk.ts;rw [hr] at hts;have hp:=Ay (f:=TG.nm) (r':=(⟨g.nm,m⟩:TG)) hts Z;obtain ⟨k1,k2⟩:=W6 h hp (fun x hx=>by
  rcases anr.1 hx with hx | hx
  ·exact hk.th x (by rw [hr];exact an5 _ hx)
  ·rcases anj.1 hx with rfl | hx
   ·exact hm
   ·exact hk.th x (by rw [hr];exact aoj _ (ank _ hx)))
 refine ⟨k1,fun p=> ?_⟩;rw [k2];obtain ⟨pr,pt⟩:=p;cases pt with
 | none => dsimp only; rw [if_neg fun hc => by cases am7 Pl.tag hc]
 | some t =>
  dsimp only;by_cases he:r.nm=pr
  ·subst he;rw [if_pos rfl,vj (bW (f:=RP.nm) h.rs).1,if_pos rfl];show _=if _ then _ else m7 t r.ts
   rw [bV (bW (f:=TG.nm) hp).1,hr,bV (bW (f:=TG.nm) hts).1];dsimp only;by_cases h1:g.nm=t
   ·subst h1;rw [if_pos rfl,if_pos rfl]
   ·rw [if_neg h1,if_neg h1,if_neg fun hc=>h1 (ao5 (am7 Pl.tag hc)).symm]
  ·rw [if_neg he,if_neg fun hc=>he (am7 Pl.repo hc).symm]
theorem uS (s:ByteArray):∀ {l:List TG},(l.Pairwise fun a b=>cbN a.nm b.nm<0)→m7 s (gI l)=m7 s l
 | [], _ => rfl
 | g :: l, h => by
  rw [aod] at h;have ih:=uS s h.2;unfold gI at ih ⊢;rw [aor];by_cases h1:g.hs.length=0
  ·rw [if_neg (by simp [aol.1 h1]),ih,m7]
   split
   ·rename_i he
    rw [zg fun x hx hxs=>by have:=h.1 x hx;rw [hxs,← he,lp] at this;omega,aol.1 h1]
   ·rfl
  ·rw [if_pos (by simpa using h1),m7,m7,ih]
theorem Ju {p:Pl}:∀ {l:List RP},RSw l→atP p (uR l)=atP p l
 | [], _ => rfl
 | r :: l, h => by
  have h1:=aod.1 h.rs;have hk:=h.ok r anl;have ih:=Ju (p:=p) (l:=l) ⟨h1.2,fun x hx=>h.ok x (ank _ hx)⟩;have hra:zf p ⟨r.nm,gI r.ts,r.ms⟩=zf p r:=by
   unfold zf;cases p.tag with
   | none => rfl
   | some s => exact uS s hk.ts
  unfold uR at ih ⊢;rw [ant,aor];by_cases h2:(gI r.ts).length+r.ms.length=0
  ·rw [if_neg (by rw [ani h2];decide),ih,atP]
   split
   ·rename_i he
    rw [gH fun x hx hxs=>by have:=h1.1 x hx;rw [hxs,← he,lp] at this;omega,← hra];unfold zf;cases p.tag with
    | none => exact (aol.1 (by dsimp only; omega)).symm
    | some s =>
     dsimp only;rw [aol.1 (show (gI r.ts).length=0 by omega)];rfl
   ·rfl
  ·rw [if_pos (by rw [ans h2];rfl),atP,atP,ih,hra]
theorem Ut {l:List RP} (h:RSw l):ve (uR l):=by
 have hf:∀ x∈uR l,∃ r∈l,x=⟨r.nm,gI r.ts,r.ms⟩∧¬ (x.ts.length+x.ms.length=0):=fun x hx=>by
  obtain ⟨h1,h2⟩:=anx.1 hx;obtain ⟨r,hr,rfl⟩:=anb.1 h1;exact ⟨r,hr,rfl,fun hc=>by rw [ani hc] at h2;cases h2⟩
 refine ⟨ao4 _ (ap7.2 (h.rs.imp fun hab=>hab)),fun x hx=> ?_⟩;obtain ⟨r,hr,rfl,hne⟩:=hf x hx;have hk:=h.ok r hr;refine ⟨ao4 _ hk.ts,fun g hg=> ?_,hk.ms,?_⟩
 ·obtain ⟨h1,h2⟩:=anx.1 hg;exact ⟨fun hc=>by rw [hc] at h2;simp at h2,hk.th g h1⟩
 ·by_cases h1:gI r.ts = []
  ·refine .inr fun h2=>hne ?_
   dsimp only at h2 ⊢;rw [h1,h2];rfl
  ·exact .inl h1

structure Tg where
 nm:ByteArray
 hv:Value
 hs:List Hd
structure Rp where
 nm:ByteArray
 tv:Value
 ts:List Tg
 mv:Value
 ms:List Hd
structure Tb where
 vv:Value
 V:List Int
 rv:Value
 rs:List Rp
def Tg.pl (g:Tg):TG:=⟨g.nm,g.hs⟩
def Rp.pl (r:Rp):RP:=⟨r.nm,r.ts.map Tg.pl,r.ms⟩
def Tb.pl (t:Tb):TB:=⟨t.V,t.rs.map Rp.pl⟩
def hdC (h:Hd):List Value:=ii h.d.1::ii h.d.2::u8s h.id
def hdV (h:Hd):Value:= .agg ⟨hdC h⟩
abbrev tgC (g:Tg):List Value:= [.string g.nm,g.hv]
abbrev rpC (r:Rp):List Value:= [.string r.nm,r.tv,r.mv]
abbrev tbC (t:Tb):List Value:= [t.vv,t.rv]
abbrev tbV (t:Tb):Value:= .agg ⟨tbC t⟩
abbrev wx:List Hd→List Value:=flC hdC
abbrev dE:List Tg→List Value:=flC tgC
abbrev oq:List Rp→List Value:=flC rpC
structure bX (h:Hd):Prop where
 d:lm h.d
 id:idOk h.id
theorem mu {h:Hd} (hi:h.id.length=32):(hdC h).length=34:=by simp [hdC,hi]
theorem rg (h:Hd):∀ u∈hdC h,u.oneCell'=true:=fun u hu=>by
 rcases anj.1 hu with rfl | hu
 ·rfl
 ·rcases anj.1 hu with rfl | hu
  ·rfl
  ·exact ib _ u hu
abbrev rHs (v:Value) (l:List Hd):SP:=row t_api_Held 34 v l.length (wx l)
abbrev rTs (v:Value) (l:List Tg):SP:=row dx 2 v l.length (dE l)
abbrev rRs (v:Value) (l:List Rp):SP:=row bi 3 v l.length (oq l)
def tgF:List Tg→List SP
 | [] => []
 | g :: l => rHs g.hv g.hs :: tgF l
abbrev rpP (r:Rp):List SP:= [rTs r.tv r.ts,rHs r.mv r.ms,all (tgF r.ts)]
def rpF:List Rp→List SP
 | [] => []
 | r :: l => all (rpP r) :: rpF l
abbrev tbP (t:Tb):List SP:= [rZ t.vv t.V,rRs t.rv t.rs,all (rpF t.rs)]
structure RR (w:World) (r:Rp):Prop where
 t:SL w 2 r.tv r.ts.length (dE r.ts)
 m:SL w 34 r.mv r.ms.length (wx r.ms)
 g:∀ g∈r.ts,SL w 34 g.hv g.hs.length (wx g.hs)
structure TR (w:World) (t:Tb):Prop where
 v:VL (Value.int .i64) w t.vv t.V
 r:SL w 3 t.rv t.rs.length (oq t.rs)
 rr:∀ r∈t.rs,RR w r
structure RW (r:Rp):Prop where
 tn:r.ts.length≤1000
 mn:r.ms.length≤1000
 gn:∀ g∈r.ts,g.hs.length≤1000
 mh:∀ h∈r.ms,bX h
 gh:∀ g∈r.ts,∀ h∈g.hs,bX h
 ns:r.nm.size≤1000
 gs:∀ g∈r.ts,g.nm.size≤1000
structure TW (t:Tb):Prop where
 vn:t.V.length≤16
 rn:t.rs.length≤1000
 rw:∀ r∈t.rs,RW r
theorem dF (a c:List Tg):tgF (a++c)=tgF a++tgF c:=by
 induction a with
 | nil => rfl
 | cons x a ih => simp only [aoe, tgF, ih]
theorem dG (a c:List Rp):rpF (a++c)=rpF a++rpF c:=by
 induction a with
 | nil => rfl
 | cons x a ih => simp only [aoe, rpF, ih]
section
variable {b:World} {F:List SP}
theorem H6 {l:List Tg} {k:Nat} (hk:nth F k=some (all (tgF l))) {g:Tg} (hg:g∈l):∀ w,Sat b F w→SL w 34 g.hv g.hs.length (wx g.hs):=fun w hS=>by
 obtain ⟨l1,l2,rfl⟩:=ao3 hg;obtain ⟨h1,hl,hA⟩:=hS.mem.get hk;have hp:(tgF (l1++g::l2)).Perm (rHs g.hv g.hs::tgF (l1++l2)):=by
  rw [dF,tgF,dF];exact an2
 have h2:Sat b (rHs g.hv g.hs::tgF (l1++l2)) w:=⟨hS.os,hS.tape,hS.output,(je hp _ hA).mono hl⟩;exact (h2.oat (k:=0) Z).sl
theorem H7 {l:List Rp} {k:Nat} (hk:nth F k=some (all (rpF l))) {r:Rp} (hr:r∈l):∀ w,Sat b F w→RR w r:=fun w hS=>by
 obtain ⟨l1,l2,rfl⟩:=ao3 hr;obtain ⟨h1,hl,hA⟩:=hS.mem.get hk;have hp:(rpF (l1++r::l2)).Perm (all (rpP r)::rpF (l1++l2)):=by
  rw [dG,rpF,dG];exact an2
 have h2:Sat b (rpP r++rpF (l1++l2)) w:=⟨hS.os,hS.tape,hS.output,((je hp).trans sk _ hA).mono hl⟩;exact ⟨(h2.oat (k:=0) Z).sl,(h2.oat (k:=1) Z).sl,fun g hg=>H6 (k:=2) Z hg w h2⟩
theorem aI {t:Tb} {i j k:Nat} (hi:nth F i=some (rZ t.vv t.V)) (hj:nth F j=some (rRs t.rv t.rs)) (hk:nth F k=some (all (rpF t.rs))):∀ w,Sat b F w→TR w t:=fun w H=>⟨vlZ hi w H,(H.oat hj).sl,fun _ hr=>H7 hk hr w H⟩
theorem rh {t:Tb} {k:Nat} (hk:nth F k=some (all (tbP t))):∀ w,Sat b F w→TR w t:=fun w H=>by
 obtain ⟨h1,hl,hA⟩:=H.mem.get hk;have h2:Sat b (tbP t) w:=⟨H.os,H.tape,H.output,kZ.mono hA hl⟩;exact aI (i:=0) (j:=1) (k:=2) Z Z Z w h2
end
theorem Qh {P : Program} {w : World} {f : FuncId} {fn : Func} (hf : P.funcs[f]? = some fn) (hname : (fn.name == "runtime.NumGoroutine") = false) (hb : fn.body.isNone = true) (hn : Extern.findNext fn = none) (he : Extern.find fn = some Extern.BytealgCompare.compare) (a c : ByteArray) :
  (callFunc f #[.string a,.string c]).run P w = .ok (.value (ii (cbN a c))) w:=by
 rw [run_callFunc_extern hf hname hb hn he];have hs:∀ s,(Extern.Bytes.bytesOf (.string s)).run P w = .ok s w:=fun _=>rfl
 change Result.andThen (Sem.run P (do pure (goInt (Extern.BytealgCompare.cmp (← Extern.Bytes.bytesOf (.string a)) (← Extern.Bytes.bytesOf (.string c))))) w) _=_;simp only [Sem.run_bind,hs,Result.andThen,Sem.run_pure];rw [Lib.cmp_eq]
 rfl
section
variable {b:World} {F:List SP}
theorem qJ {a c:ByteArray}:SC Tryz.prog s9 [.string a,.string c] b F (fun v F'=>v=ii (cbN a c)∧F'=F):=by
 refine aw Tryz.func259 Z Z Z <| akw <| ae Z <| aan <| am4 Z Z ?_;refine nR Z Z Z (fun w H=>Qh Tryz.func295 (by kernel_rfl) (by kernel_rfl) (by kernel_rfl) (by kernel_rfl) a c) ?_;refine ae Z <| akv <| ai <| ar Z Z ax ?_;exact ⟨rfl,rfl⟩
theorem dH {a c:ByteArray}:SC Tryz.prog lV [.string a,.string c] b F (fun v F'=>v=ii (cbN a c)∧F'=F):=by
 refine aw Tryz.func211 Z Z Z <| akw <| ae Z <| aan <| am4 Z Z <| bg Z Z Z (qJ) <| ae Z <| akv <| ai <| ar Z Z ax ?_;exact ⟨rfl,rfl⟩
theorem Qi {g:Nat} {x y:Int}:SC Tryz.prog zJ [.slice (some ⟨g,0,none⟩) 2 2] b (pt g fd [ii x,ii y]::F) (fun v F'=>v=ii (if x=0 then y else x)∧F'=pt g fd [ii x,ii y]::F):=by
 refine aw Tryz.func69 Z Z Z <| akw <| ae Z <| aan <| ae Z <| akv <| ad <| akw <| am5 Z Z Z <| akv <| am <| dt (S:=Nat) (fun i=> [(3,ii 0),(6,.slice (some ⟨g,0,none⟩) 2 2),(7,ii 2),(8,ii i)]) (fun _=>pt g fd [ii x,ii y]::F) (fun i=>i=0∨(i=1∧x=0)∨(i=2∧x=0∧y=0)) (fun i=>2 - i) 0 ax Zl ?_;rintro i (rfl | ⟨rfl,rfl⟩ | ⟨rfl,rfl,rfl⟩)
 ·refine akw <| ae Z <| akv <| ad <| ao Z <| ak <| ab <| ad <| am <| akw <| az Z <| bt 0 Z Z Z <| ae Z <| aan <| am5 Z Z Z <| akv ?_;refine cH Z (fun h=> ?_) (fun h=> ?_)
  ·refine akw <| am4 Z Z <| akv <| ai <| al <| ag <| cd <| al <| ag <| ar Z Z ax ?_;rw [if_neg h];exact ⟨rfl,rfl⟩
  ·refine ak <| bh <| ab <| aa <| az Z <| ae Z <| ac ?_;refine ly 1 ax (.inr (.inl ⟨rfl,h⟩)) (by decide)
 ·refine akw <| ae Z <| akv <| ad <| ao Z <| ak <| ab <| ad <| am <| akw <| az Z <| bt 0 Z Z Z <| ae Z <| aan <| am5 Z Z Z <| akv ?_;refine cH Z (fun h=> ?_) (fun h=> ?_)
  ·refine akw <| am4 Z Z <| akv <| ai <| al <| ag <| cd <| al <| ag <| ar Z Z ax ?_;exact ⟨rfl,rfl⟩
  ·refine ak <| bh <| ab <| aa <| az Z <| ae Z <| ac ?_;refine ly 2 ax (.inr (.inr ⟨rfl,rfl,h⟩)) (by decide)
 ·refine akw <| ae Z <| akv <| ad <| aj Z <| bz <| au <| av <| ap <| ab <| akw <| am4 Z Z <| akv <| ai <| ar Z Z ax ?_;exact ⟨rfl,rfl⟩
end
def ahD (a c:Int × Int):Int:=if mD a.1 c.1=0 then mD a.2 c.2 else mD a.1 c.1
theorem gJ {a c:Int × Int}:ahD a c<0↔ltD a c:=by
 unfold ahD mD ltD
 repeat' split
 all_goals constructor <;> omega
section
variable {b:World} {F:List SP}
theorem dI {x y:Int}:SC Tryz.prog pb [ii x,ii y] b F (fun v F'=>v=ii (mD x y)∧F'=F):=SC.ofEq fun w _=>mE x y w
theorem Jv {x y:Hd} (hx:x.id.length=32) (hy:y.id.length=32):SC Tryz.prog aC [hdV x,hdV y] b F (fun v F'=>v=ii (ahD x.d y.d)∧F'=F):=by
 refine aw Tryz.func219 Z Z Z <| akw <| bx Z Z Z Z Z fun g2=>bx Z Z Z Z Z fun g3=>ae Z <| akv <| ad <| cn flo (pt g3 t_api_Held (hdC y)::pt g2 t_api_Held (hdC x)::F) (by decide +kernel) ax <| ay Z Zl <| ay Z Zl <| cl 1 Z Z Z Z <| ay Z Zl <| ay Z Zl <| cl 0 Z Z Z Z <| dh Z Z Z Z (dI) ax <| ay Z Zl <| ay Z Zl <| cl 1 Z Z Z Z <| ay Z Zl <| ay Z Zl <| cl 0 Z Z Z Z <| dh Z Z Z Z (dI) ax ?_
 skip
 refine yZ [_,_] Z Z Z Z Z Z Z Z Z Z (af 2 [0,1] Z) fun g4=>dh Z Z Z Z (Qi) ((af 3 [1,2] Z)) <| ay Z Zl <| aq <| ab <| ai <| ar Z Z (af 3 [] Z) ?_
 exact ⟨rfl,rfl⟩
end

section
variable {b:World} {F:List SP} {p:Tg→Bool} {f:Nat} [Bodied Tryz.prog f] {pre post:List Value} {D:List Tg} {va:Value}
 (hc:∀ d∈D,∀ B:List SP,SC Tryz.prog f (pre++([.agg ⟨tgC d⟩]++post)) b (B++F) (fun u F'=>u = .bool (p d)∧F'=B++F)) (hz:∀ d∈D,(tgC d).length=2)
include hc hz
theorem Xa (ha:∀ w,Sat b F w→SL w 2 va D.length (flC tgC D)) (hn:D.length≤100000) :
  SC Tryz.prog mg [va,.func (.func f) ⟨pre⟩ ⟨post⟩] b F (fun u F'=>(∃ P T,D=P++T∧(∀ e∈P,p e=false)∧(∀ t T',T=t::T'→p t=true)∧u=ii (if T = [] then -1 else (P.length:Int)))∧F'=F):=by
 refine aw Tryz.func209 Z Z Z <| bu (fun w H=>cp (ha w H)) ?_;rintro ⟨A,c,rfl,_,_,_,h4,_⟩;refine akw <| ae Z <| akv <| ad <| akw <| am5 Z Z Z <| akv <| am ?_;refine dt (S:=Nat) (fun i=> [(0,.slice A D.length c),(1,.func (.func f) ⟨pre⟩ ⟨post⟩),(7,ii D.length),(8,ii i)]) (fun _=>F) (fun i=>i≤D.length∧∀ e∈D.take i,p e=false) (fun i=>D.length - i) 0 ax ⟨anq _,fun e he=>by simp at he⟩ ?_;rintro i ⟨hi,hP⟩;refine akw <| ae Z <| akv <| ad ?_;refine de Z (fun h1=> ?_) (fun h1=> ?_)
 ·have h1':i<D.length:=by omega
  obtain ⟨gg,oo,rfl⟩:=h4 (by omega);have ca:∀ w,Sat b F w→∀ j,j<2→w.cell? ⟨gg,oo+i*2+j,none⟩=(tgC D[i])[j]?:=fun w H j hj=>fb (ha w H) hz h1' hj
  have hcy:=hc _ (ana h1');have hyl:=hz _ (ana h1');have hsn:D.take (i+1)=D.take i ++ [D[i]]:=ang h1';have hdr:D.drop i=D[i]::D.drop (i+1):=an8 h1';generalize hy:D[i]=y at *;generalize tgC y=cs at *;refine ak <| ab <| ad <| am <| akw <| am4 Z Z <| aan <| am5 Z Z Z <| az Z ?_;refine fc Z (fun w H=>cg (cs:=cs) Z Z Z hyl (fun j hj=>by rw [bq,am6];exact ca w H j (by rw [hyl] at hj;exact hj))) Z ?_;refine bg Z Z Z (hcy []) <| akv ?_;refine sm Z (fun q=> ?_) (fun q=> ?_)
  ·refine akw <| am4 Z Z <| akv <| ai <| al <| ag <| cd <| al <| ag <| ar Z Z ax ?_;refine ⟨⟨D.take i,D.drop i,(an9 i D).symm,hP,fun t T' h=> ?_,?_⟩,rfl⟩
   ·rw [hdr] at h;cases h;exact q
   ·rw [hdr,if_neg (by simp),anm,apq hi];rfl
  ·refine ak <| bh <| ab <| aa <| az Z <| ae Z <| ac <| cw (i+1) ax ⟨h1',fun e he=> ?_⟩;rw [hsn] at he;rcases anr.1 he with he | he
   ·exact hP e he
   ·rw [anc.1 he];exact q
 ·obtain rfl:i=D.length:=by omega
  rw [an7] at hP;refine bz <| au <| av <| ap <| ab <| akw <| ae Z <| akv <| ai <| ar Z Z ax ?_;exact ⟨⟨D,[],by simp,hP,(fun t T' h=>by cases h),rfl⟩,rfl⟩
theorem Xb (ha:∀ w,Sat b F w→SL w 2 va D.length (flC tgC D)) (hn:D.length≤100000) :
  SC Tryz.prog lj [va,.func (.func f) ⟨pre⟩ ⟨post⟩] b F (fun u F'=>u = .bool (D.any p)∧F'=F):=by
 refine aw Tryz.func136 Z Z Z <| akw <| ae Z <| aan <| am4 Z Z <| bf Z Z Z (Xa hc hz ha hn) ?_;rintro _ _ ⟨⟨P,T,hPT,hP,hT,rfl⟩,rfl⟩;have hfP:P.any p=false:=by rw [aqx];intro e he;rw [hP e he];simp
 cases T with
 | nil =>
  rw [if_pos rfl];refine am4 Z Z <| akv <| ai <| ar Z Z ax ?_;rw [hPT,anv,hfP];exact ⟨rfl,rfl⟩
 | cons t T =>
  rw [if_neg (by simp)];refine am4 Z Z <| akv <| ai <| ar Z Z ax ?_;rw [hPT,List.any_append,hfP,List.any_cons,hT t T rfl];exact ⟨am7 Value.bool (ani (by omega)),rfl⟩
theorem ajs {A:Option Addr} {c:Nat} (ho:∀ d∈D,∀ u∈tgC d,u.oneCell'=true) (hn:D.length≤100000) :
  SC Tryz.prog lz [.slice A D.length c,.func (.func f) ⟨pre⟩ ⟨post⟩] b (row dx 2 (.slice A D.length c) D.length (flC tgC D)::F) (fun u F'=>u = .slice A (D.filter fun e=> !p e).length c∧F'=row dx 2 (.slice A (D.filter fun e=> !p e).length c) (D.filter fun e=> !p e).length (flC tgC (D.filter fun e=> !p e))::F):=by
 have hc2:∀ (C:List SP),∀ d∈D,∀ B:List SP,SC Tryz.prog f (pre++([.agg ⟨tgC d⟩]++post)) b (B++(C++F)) (fun u F'=>u = .bool (p d)∧F'=B++(C++F)):=fun C d hd B=>by
  have h:=hc d hd (B++C);rw [anh] at h;exact h
 refine aw Tryz.func146 Z Z Z <| akw <| ae Z <| aan <| am4 Z Z <| bf Z Z Z (Xa (hc2 [_]) hz (fun w H=>(H.oat (k:=0) Z).sl) hn) ?_;rintro _ _ ⟨⟨P,T,hPT,hP,hT,rfl⟩,rfl⟩;have hfP:P.filter (fun e=> !p e)=P:=aom.2 fun e he=>by rw [hP e he];rfl
 cases T with
 | nil =>
  rw [if_pos rfl];rw [anv] at hPT;subst hPT;rw [hfP];refine ae Z <| akv <| ad <| akw <| am4 Z Z <| akv <| ao Z <| akw <| am4 Z Z <| akv <| ai <| ag <| ar Z Z ax ?_;exact ⟨rfl,rfl⟩
 | cons t T =>
 rw [if_neg (by simp)];have ht:=hT t T Z;have hl:D.length=P.length+(T.length+1):=by rw [hPT,am9,anp]
 refine b9 (fun w H=>(H.oat (k:=0) Z).form) ?_;rintro ⟨A',c',hv,hnc,_,q3⟩;cases hv;obtain ⟨gg,oo,rfl⟩:=q3 (by omega);refine ae Z <| akv <| ad <| akw <| am4 Z Z <| akv <| aj Z <| ak <| ab <| ad <| akw <| ae Z <| az Z <| ae Z <| akv <| am ?_;rw [show (P.length:Int)+1=((P.length+1:Nat):Int) by omega];have hti:D.take (P.length+1)=P ++ [t]:=by
  rw [hPT,List.take_append,an1 (by omega),ao8];rfl
 refine dt (S:=Nat × Nat × List Tg) (fun s=> [(0,.slice (some ⟨gg,oo,none⟩) D.length c),(1,.func (.func f) ⟨pre⟩ ⟨post⟩),(5,ii s.1),(6,ii s.2.1)]) (fun s=>row dx 2 (.slice (some ⟨gg,oo,none⟩) D.length c) D.length (flC tgC s.2.2)::F)
  (fun s=>s.1<s.2.1∧s.2.1≤D.length∧s.2.2.length=D.length∧s.2.2.take s.1=(D.take s.2.1).filter (fun e=> !p e)∧s.2.2.drop s.2.1=D.drop s.2.1∧∀ d∈s.2.2,d∈D) (fun s=>D.length - s.2.1) (P.length,P.length+1,D) ax ⟨by dsimp only;omega,by dsimp only;omega,rfl,?_,rfl,fun _ h=>h⟩ ?_
 ·dsimp only;rw [hti,aov,hfP,aor,ht,hPT,apm (by omega),an7];simp
 rintro ⟨i,j,X⟩ ⟨hij,hj,hX,hXt,hXd,hXm⟩;dsimp only at hij hj hX hXt hXd hXm ⊢;have hXz:∀ d∈X,(tgC d).length=2:=fun d hd=>hz d (hXm d hd)
 refine ad <| akw <| am5 Z Z Z <| ae Z <| akv ?_;refine de Z (fun h1=> ?_) (fun h1=> ?_)
 ·have h1':j<D.length:=by omega
  have hx:X[j]? = some D[j]:=by
   have:=am7 (·[0]?) hXd;simpa [aow,h1'] using this
  have hsn:D.take (j+1)=D.take j ++ [D[j]]:=ang h1';have fx:((flC tgC X).drop (j*2)).take 2=tgC D[j]:=by
   obtain ⟨hjX,hxe⟩:=ann.1 hx;rw [← hxe];exact pa hXz hjX
  have hym:=ana h1';have hcy:=hc _ hym;have hyl:=hz _ hym;have hyo:=ho _ hym;have hw:=vf (f:=tgC) (x:=D[j]) hXz hyl (i:=i) (by omega);have hXd2:X.drop (j+1)=D.drop (j+1):=by
   have:=am7 List.tail hXd;simpa [List.tail_drop] using this
  generalize hy:D[j]=y at *;have hel:=ju hXz;rw [hX] at hel;obtain ⟨e1,e2⟩:=kw (X:=X) (y:=y) hij (by omega);generalize tgC y=cs at *;refine ak <| ab <| ad <| am <| akw <| am4 Z Z <| az Z ?_;refine vw 0 (j*2) Z Z Z Z Z Z Z (by rw [bq,am6]) (by omega) fx (by rw [hyl];rfl) ?_;refine db Z Z Z Z Z fun g7=> ?_;refine fh 0 Z Z Z Z Z Z Z hyl hyo (by rw [hyl];rfl) ?_;refine aan <| ae Z ?_;refine du 0 Z Z Z Z Z Z (dj (by rw [hyl];rfl)) Z ?_;refine bg Z Z Z (hcy [pt g7 dx cs,row dx 2 (.slice (some ⟨gg,oo,none⟩) D.length c) D.length (flC tgC X)]) <| ae Z <| akv ?_;refine sm Z (fun q=> ?_) (fun q=> ?_)
  ·have q':p y=false:=by simpa using q
   refine akw <| am4 Z Z ?_;refine du 0 Z Z Z Z Z Z (dj (by rw [hyl];rfl)) Z ?_;refine az Z ?_;refine ym 1 (i*2) Z Z Z Z Z Z (by rw [hyl];rfl) Z hw Z (by rw [bq,am6]) (by rw [hel,hyl];omega) hyo ?_;refine akv <| aa <| ae Z <| az Z <| ae Z <| ac <| bh <| ab <| aa <| ae Z <| az Z <| ae Z <| ac ?_;rw [show (i:Int)+1=((i+1:Nat):Int) by omega,show (j:Int)+1=((j+1:Nat):Int) by omega];refine cw (i+1,j+1,X.set i y) (af 2 [1] Z) ⟨by dsimp only;omega,h1',by rw [app];exact hX,?_,?_,fun d hd=> ?_⟩
   ·dsimp only;rw [e1,hXt,hsn,aov,aor,q'];rfl
   ·dsimp only;rw [← hXd2];exact (kw (X:=X) (y:=y) (j:=j+1) (by omega) (by omega)).2
   ·rcases apd hd with h | h
    ·exact hXm d h
    ·rw [h];exact hym
  ·have q':p y=true:=by simpa using q
   refine ak <| bh <| ab <| aa <| ae Z <| az Z <| ae Z <| ac ?_;rw [show (j:Int)+1=((j+1:Nat):Int) by omega];refine cw (i,j+1,X) (af 2 [1] Z) ⟨by dsimp only;omega,h1',hX,?_,hXd2,hXm⟩;dsimp only;rw [hXt,hsn,aov,aor,q'];simp
 ·obtain rfl:j=D.length:=by omega
  rw [an7] at hXt;have hil:i=(D.filter fun e=> !p e).length:=by
   have:=am7 List.length hXt;rw [anm] at this;omega
  have e9:=hZ hXz i;rw [hXt] at e9;have hi1:((i:Int)).toNat=i:=am6 i;refine bz <| au <| av <| ap <| ab <| akw <| am4 Z Z <| az Z ?_;refine bm 38 (.slice (if c=i then some ⟨gg,oo,none⟩ else (some (⟨gg,oo,none⟩:Addr)).map (·.add (i*2))) (D.length - i) (c - i)) Z (by rw [hi1]) ?_;refine zp 0 Z Z Z Z Z Z Z Z Z Z (fun h=>by
   rw [if_neg (by omega)];simp only [aoh,Addr.add,ane]
   split <;> simp_all) (by omega) ?_
  rw [e9];refine aan <| am4 Z Z <| az Z <| ae Z <| akv <| ai <| ar Z Z ax ?_;rw [← hil];exact ⟨rfl,rfl⟩
end
section
variable {b:World} {F:List SP} {p:Rp→Bool} {f:Nat} [Bodied Tryz.prog f] {pre post:List Value} {D:List Rp} {va:Value}
 (hc:∀ d∈D,∀ B:List SP,SC Tryz.prog f (pre++([.agg ⟨rpC d⟩]++post)) b (B++F) (fun u F'=>u = .bool (p d)∧F'=B++F)) (hz:∀ d∈D,(rpC d).length=3)
include hc hz
theorem ajt (ha:∀ w,Sat b F w→SL w 3 va D.length (flC rpC D)) (hn:D.length≤100000) :
  SC Tryz.prog iw [va,.func (.func f) ⟨pre⟩ ⟨post⟩] b F (fun u F'=>(∃ P T,D=P++T∧(∀ e∈P,p e=false)∧(∀ t T',T=t::T'→p t=true)∧u=ii (if T = [] then -1 else (P.length:Int)))∧F'=F):=by
 refine aw Tryz.func230 Z Z Z <| bu (fun w H=>cp (ha w H)) ?_;rintro ⟨A,c,rfl,_,_,_,h4,_⟩;refine akw <| ae Z <| akv <| ad <| akw <| am5 Z Z Z <| akv <| am ?_;refine dt (S:=Nat) (fun i=> [(0,.slice A D.length c),(1,.func (.func f) ⟨pre⟩ ⟨post⟩),(7,ii D.length),(8,ii i)]) (fun _=>F) (fun i=>i≤D.length∧∀ e∈D.take i,p e=false) (fun i=>D.length - i) 0 ax ⟨anq _,fun e he=>by simp at he⟩ ?_;rintro i ⟨hi,hP⟩;refine akw <| ae Z <| akv <| ad ?_;refine de Z (fun h1=> ?_) (fun h1=> ?_)
 ·have h1':i<D.length:=by omega
  obtain ⟨gg,oo,rfl⟩:=h4 (by omega);have ca:∀ w,Sat b F w→∀ j,j<3→w.cell? ⟨gg,oo+i*3+j,none⟩=(rpC D[i])[j]?:=fun w H j hj=>fb (ha w H) hz h1' hj
  have hcy:=hc _ (ana h1');have hyl:=hz _ (ana h1');have hsn:D.take (i+1)=D.take i ++ [D[i]]:=ang h1';have hdr:D.drop i=D[i]::D.drop (i+1):=an8 h1';generalize hy:D[i]=y at *;generalize rpC y=cs at *;refine ak <| ab <| ad <| am <| akw <| am4 Z Z <| aan <| am5 Z Z Z <| az Z ?_;refine fc Z (fun w H=>cg (cs:=cs) Z Z Z hyl (fun j hj=>by rw [bq,am6];exact ca w H j (by rw [hyl] at hj;exact hj))) Z ?_;refine bg Z Z Z (hcy []) <| akv ?_;refine sm Z (fun q=> ?_) (fun q=> ?_)
  ·refine akw <| am4 Z Z <| akv <| ai <| al <| ag <| cd <| al <| ag <| ar Z Z ax ?_;refine ⟨⟨D.take i,D.drop i,(an9 i D).symm,hP,fun t T' h=> ?_,?_⟩,rfl⟩
   ·rw [hdr] at h;cases h;exact q
   ·rw [hdr,if_neg (by simp),anm,apq hi];rfl
  ·refine ak <| bh <| ab <| aa <| az Z <| ae Z <| ac <| cw (i+1) ax ⟨h1',fun e he=> ?_⟩;rw [hsn] at he;rcases anr.1 he with he | he
   ·exact hP e he
   ·rw [anc.1 he];exact q
 ·obtain rfl:i=D.length:=by omega
  rw [an7] at hP;refine bz <| au <| av <| ap <| ab <| akw <| ae Z <| akv <| ai <| ar Z Z ax ?_;exact ⟨⟨D,[],by simp,hP,(fun t T' h=>by cases h),rfl⟩,rfl⟩
theorem aju {A:Option Addr} {c:Nat} (ho:∀ d∈D,∀ u∈rpC d,u.oneCell'=true) (hn:D.length≤100000) :
  SC Tryz.prog lk [.slice A D.length c,.func (.func f) ⟨pre⟩ ⟨post⟩] b (row bi 3 (.slice A D.length c) D.length (flC rpC D)::F) (fun u F'=>u = .slice A (D.filter fun e=> !p e).length c∧F'=row bi 3 (.slice A (D.filter fun e=> !p e).length c) (D.filter fun e=> !p e).length (flC rpC (D.filter fun e=> !p e))::F):=by
 have hc2:∀ (C:List SP),∀ d∈D,∀ B:List SP,SC Tryz.prog f (pre++([.agg ⟨rpC d⟩]++post)) b (B++(C++F)) (fun u F'=>u = .bool (p d)∧F'=B++(C++F)):=fun C d hd B=>by
  have h:=hc d hd (B++C);rw [anh] at h;exact h
 refine aw Tryz.func148 Z Z Z <| akw <| ae Z <| aan <| am4 Z Z <| bf Z Z Z (ajt (hc2 [_]) hz (fun w H=>(H.oat (k:=0) Z).sl) hn) ?_;rintro _ _ ⟨⟨P,T,hPT,hP,hT,rfl⟩,rfl⟩;have hfP:P.filter (fun e=> !p e)=P:=aom.2 fun e he=>by rw [hP e he];rfl
 cases T with
 | nil =>
  rw [if_pos rfl];rw [anv] at hPT;subst hPT;rw [hfP];refine ae Z <| akv <| ad <| akw <| am4 Z Z <| akv <| ao Z <| akw <| am4 Z Z <| akv <| ai <| ag <| ar Z Z ax ?_;exact ⟨rfl,rfl⟩
 | cons t T =>
 rw [if_neg (by simp)];have ht:=hT t T Z;have hl:D.length=P.length+(T.length+1):=by rw [hPT,am9,anp]
 refine b9 (fun w H=>(H.oat (k:=0) Z).form) ?_;rintro ⟨A',c',hv,hnc,_,q3⟩;cases hv;obtain ⟨gg,oo,rfl⟩:=q3 (by omega);refine ae Z <| akv <| ad <| akw <| am4 Z Z <| akv <| aj Z <| ak <| ab <| ad <| akw <| ae Z <| az Z <| ae Z <| akv <| am ?_;rw [show (P.length:Int)+1=((P.length+1:Nat):Int) by omega];have hti:D.take (P.length+1)=P ++ [t]:=by
  rw [hPT,List.take_append,an1 (by omega),ao8];rfl
 refine dt (S:=Nat × Nat × List Rp) (fun s=> [(0,.slice (some ⟨gg,oo,none⟩) D.length c),(1,.func (.func f) ⟨pre⟩ ⟨post⟩),(5,ii s.1),(6,ii s.2.1)]) (fun s=>row bi 3 (.slice (some ⟨gg,oo,none⟩) D.length c) D.length (flC rpC s.2.2)::F)
  (fun s=>s.1<s.2.1∧s.2.1≤D.length∧s.2.2.length=D.length∧s.2.2.take s.1=(D.take s.2.1).filter (fun e=> !p e)∧s.2.2.drop s.2.1=D.drop s.2.1∧∀ d∈s.2.2,d∈D) (fun s=>D.length - s.2.1) (P.length,P.length+1,D) ax ⟨by dsimp only;omega,by dsimp only;omega,rfl,?_,rfl,fun _ h=>h⟩ ?_
 ·dsimp only;rw [hti,aov,hfP,aor,ht,hPT,apm (by omega),an7];simp
 rintro ⟨i,j,X⟩ ⟨hij,hj,hX,hXt,hXd,hXm⟩;dsimp only at hij hj hX hXt hXd hXm ⊢;have hXz:∀ d∈X,(rpC d).length=3:=fun d hd=>hz d (hXm d hd)
 refine ad <| akw <| am5 Z Z Z <| ae Z <| akv ?_;refine de Z (fun h1=> ?_) (fun h1=> ?_)
 ·have h1':j<D.length:=by omega
  have hx:X[j]? = some D[j]:=by
   have:=am7 (·[0]?) hXd;simpa [aow,h1'] using this
  have hsn:D.take (j+1)=D.take j ++ [D[j]]:=ang h1';have fx:((flC rpC X).drop (j*3)).take 3=rpC D[j]:=by
   obtain ⟨hjX,hxe⟩:=ann.1 hx;rw [← hxe];exact pa hXz hjX
  have hym:=ana h1';have hcy:=hc _ hym;have hyl:=hz _ hym;have hyo:=ho _ hym;have hw:=vf (f:=rpC) (x:=D[j]) hXz hyl (i:=i) (by omega);have hXd2:X.drop (j+1)=D.drop (j+1):=by
   have:=am7 List.tail hXd;simpa [List.tail_drop] using this
  generalize hy:D[j]=y at *;have hel:=ju hXz;rw [hX] at hel;obtain ⟨e1,e2⟩:=kw (X:=X) (y:=y) hij (by omega);generalize rpC y=cs at *;refine ak <| ab <| ad <| am <| akw <| am4 Z Z <| az Z ?_;refine vw 0 (j*3) Z Z Z Z Z Z Z (by rw [bq,am6]) (by omega) fx (by rw [hyl];rfl) ?_;refine db Z Z Z Z Z fun g7=> ?_;refine fh 0 Z Z Z Z Z Z Z hyl hyo (by rw [hyl];rfl) ?_;refine aan <| ae Z ?_;refine du 0 Z Z Z Z Z Z (dj (by rw [hyl];rfl)) Z ?_;refine bg Z Z Z (hcy [pt g7 bi cs,row bi 3 (.slice (some ⟨gg,oo,none⟩) D.length c) D.length (flC rpC X)]) <| ae Z <| akv ?_;refine sm Z (fun q=> ?_) (fun q=> ?_)
  ·have q':p y=false:=by simpa using q
   refine akw <| am4 Z Z ?_;refine du 0 Z Z Z Z Z Z (dj (by rw [hyl];rfl)) Z ?_;refine az Z ?_;refine ym 1 (i*3) Z Z Z Z Z Z (by rw [hyl];rfl) Z hw Z (by rw [bq,am6]) (by rw [hel,hyl];omega) hyo ?_;refine akv <| aa <| ae Z <| az Z <| ae Z <| ac <| bh <| ab <| aa <| ae Z <| az Z <| ae Z <| ac ?_;rw [show (i:Int)+1=((i+1:Nat):Int) by omega,show (j:Int)+1=((j+1:Nat):Int) by omega];refine cw (i+1,j+1,X.set i y) (af 2 [1] Z) ⟨by dsimp only;omega,h1',by rw [app];exact hX,?_,?_,fun d hd=> ?_⟩
   ·dsimp only;rw [e1,hXt,hsn,aov,aor,q'];rfl
   ·dsimp only;rw [← hXd2];exact (kw (X:=X) (y:=y) (j:=j+1) (by omega) (by omega)).2
   ·rcases apd hd with h | h
    ·exact hXm d h
    ·rw [h];exact hym
  ·have q':p y=true:=by simpa using q
   refine ak <| bh <| ab <| aa <| ae Z <| az Z <| ae Z <| ac ?_;rw [show (j:Int)+1=((j+1:Nat):Int) by omega];refine cw (i,j+1,X) (af 2 [1] Z) ⟨by dsimp only;omega,h1',hX,?_,hXd2,hXm⟩;dsimp only;rw [hXt,hsn,aov,aor,q'];simp
 ·obtain rfl:j=D.length:=by omega
  rw [an7] at hXt;have hil:i=(D.filter fun e=> !p e).length:=by
   have:=am7 List.length hXt;rw [anm] at this;omega
  have e9:=hZ hXz i;rw [hXt] at e9;have hi1:((i:Int)).toNat=i:=am6 i;refine bz <| au <| av <| ap <| ab <| akw <| am4 Z Z <| az Z ?_;refine bm 38 (.slice (if c=i then some ⟨gg,oo,none⟩ else (some (⟨gg,oo,none⟩:Addr)).map (·.add (i*3))) (D.length - i) (c - i)) Z (by rw [hi1]) ?_;refine zp 0 Z Z Z Z Z Z Z Z Z Z (fun h=>by
   rw [if_neg (by omega)];simp only [aoh,Addr.add,ane]
   split <;> simp_all) (by omega) ?_
  rw [e9];refine aan <| am4 Z Z <| az Z <| ae Z <| akv <| ai <| ar Z Z ax ?_;rw [← hil];exact ⟨rfl,rfl⟩
end
section
variable {b:World} {F:List SP} {p:Hd→Bool} {f:Nat} [Bodied Tryz.prog f] {pre post:List Value} {D:List Hd} {va:Value}
 (hc:∀ d∈D,∀ B:List SP,SC Tryz.prog f (pre++([.agg ⟨hdC d⟩]++post)) b (B++F) (fun u F'=>u = .bool (p d)∧F'=B++F)) (hz:∀ d∈D,(hdC d).length=34)
include hc hz
theorem ajv (ha:∀ w,Sat b F w→SL w 34 va D.length (flC hdC D)) (hn:D.length≤100000) :
  SC Tryz.prog pj [va,.func (.func f) ⟨pre⟩ ⟨post⟩] b F (fun u F'=>(∃ P T,D=P++T∧(∀ e∈P,p e=false)∧(∀ t T',T=t::T'→p t=true)∧u=ii (if T = [] then -1 else (P.length:Int)))∧F'=F):=by
 refine aw Tryz.func265 Z Z Z <| bu (fun w H=>cp (ha w H)) ?_;rintro ⟨A,c,rfl,_,_,_,h4,_⟩;refine akw <| ae Z <| akv <| ad <| akw <| am5 Z Z Z <| akv <| am ?_;refine dt (S:=Nat) (fun i=> [(0,.slice A D.length c),(1,.func (.func f) ⟨pre⟩ ⟨post⟩),(7,ii D.length),(8,ii i)]) (fun _=>F) (fun i=>i≤D.length∧∀ e∈D.take i,p e=false) (fun i=>D.length - i) 0 ax ⟨anq _,fun e he=>by simp at he⟩ ?_;rintro i ⟨hi,hP⟩;refine akw <| ae Z <| akv <| ad ?_;refine de Z (fun h1=> ?_) (fun h1=> ?_)
 ·have h1':i<D.length:=by omega
  obtain ⟨gg,oo,rfl⟩:=h4 (by omega);have ca:∀ w,Sat b F w→∀ j,j<34→w.cell? ⟨gg,oo+i*34+j,none⟩=(hdC D[i])[j]?:=fun w H j hj=>fb (ha w H) hz h1' hj
  have hcy:=hc _ (ana h1');have hyl:=hz _ (ana h1');have hsn:D.take (i+1)=D.take i ++ [D[i]]:=ang h1';have hdr:D.drop i=D[i]::D.drop (i+1):=an8 h1';generalize hy:D[i]=y at *;generalize hdC y=cs at *;refine ak <| ab <| ad <| am <| akw <| am4 Z Z <| aan <| am5 Z Z Z <| az Z ?_;refine fc Z (fun w H=>cg (cs:=cs) Z Z Z hyl (fun j hj=>by rw [bq,am6];exact ca w H j (by rw [hyl] at hj;exact hj))) Z ?_;refine bg Z Z Z (hcy []) <| akv ?_;refine sm Z (fun q=> ?_) (fun q=> ?_)
  ·refine akw <| am4 Z Z <| akv <| ai <| al <| ag <| cd <| al <| ag <| ar Z Z ax ?_;refine ⟨⟨D.take i,D.drop i,(an9 i D).symm,hP,fun t T' h=> ?_,?_⟩,rfl⟩
   ·rw [hdr] at h;cases h;exact q
   ·rw [hdr,if_neg (by simp),anm,apq hi];rfl
  ·refine ak <| bh <| ab <| aa <| az Z <| ae Z <| ac <| cw (i+1) ax ⟨h1',fun e he=> ?_⟩;rw [hsn] at he;rcases anr.1 he with he | he
   ·exact hP e he
   ·rw [anc.1 he];exact q
 ·obtain rfl:i=D.length:=by omega
  rw [an7] at hP;refine bz <| au <| av <| ap <| ab <| akw <| ae Z <| akv <| ai <| ar Z Z ax ?_;exact ⟨⟨D,[],by simp,hP,(fun t T' h=>by cases h),rfl⟩,rfl⟩
theorem ajw {A:Option Addr} {c:Nat} (ho:∀ d∈D,∀ u∈hdC d,u.oneCell'=true) (hn:D.length≤100000) :
  SC Tryz.prog ox [.slice A D.length c,.func (.func f) ⟨pre⟩ ⟨post⟩] b (row t_api_Held 34 (.slice A D.length c) D.length (flC hdC D)::F) (fun u F'=>u = .slice A (D.filter fun e=> !p e).length c∧F'=row t_api_Held 34 (.slice A (D.filter fun e=> !p e).length c) (D.filter fun e=> !p e).length (flC hdC (D.filter fun e=> !p e))::F):=by
 have hc2:∀ (C:List SP),∀ d∈D,∀ B:List SP,SC Tryz.prog f (pre++([.agg ⟨hdC d⟩]++post)) b (B++(C++F)) (fun u F'=>u = .bool (p d)∧F'=B++(C++F)):=fun C d hd B=>by
  have h:=hc d hd (B++C);rw [anh] at h;exact h
 refine aw Tryz.func225 Z Z Z <| akw <| ae Z <| aan <| am4 Z Z <| bf Z Z Z (ajv (hc2 [_]) hz (fun w H=>(H.oat (k:=0) Z).sl) hn) ?_;rintro _ _ ⟨⟨P,T,hPT,hP,hT,rfl⟩,rfl⟩;have hfP:P.filter (fun e=> !p e)=P:=aom.2 fun e he=>by rw [hP e he];rfl
 cases T with
 | nil =>
  rw [if_pos rfl];rw [anv] at hPT;subst hPT;rw [hfP];refine ae Z <| akv <| ad <| akw <| am4 Z Z <| akv <| ao Z <| akw <| am4 Z Z <| akv <| ai <| ag <| ar Z Z ax ?_;exact ⟨rfl,rfl⟩
 | cons t T =>
 rw [if_neg (by simp)];have ht:=hT t T Z;have hl:D.length=P.length+(T.length+1):=by rw [hPT,am9,anp]
 refine b9 (fun w H=>(H.oat (k:=0) Z).form) ?_;rintro ⟨A',c',hv,hnc,_,q3⟩;cases hv;obtain ⟨gg,oo,rfl⟩:=q3 (by omega);refine ae Z <| akv <| ad <| akw <| am4 Z Z <| akv <| aj Z <| ak <| ab <| ad <| akw <| ae Z <| az Z <| ae Z <| akv <| am ?_;rw [show (P.length:Int)+1=((P.length+1:Nat):Int) by omega];have hti:D.take (P.length+1)=P ++ [t]:=by
  rw [hPT,List.take_append,an1 (by omega),ao8];rfl
 refine dt (S:=Nat × Nat × List Hd) (fun s=> [(0,.slice (some ⟨gg,oo,none⟩) D.length c),(1,.func (.func f) ⟨pre⟩ ⟨post⟩),(5,ii s.1),(6,ii s.2.1)]) (fun s=>row t_api_Held 34 (.slice (some ⟨gg,oo,none⟩) D.length c) D.length (flC hdC s.2.2)::F)
  (fun s=>s.1<s.2.1∧s.2.1≤D.length∧s.2.2.length=D.length∧s.2.2.take s.1=(D.take s.2.1).filter (fun e=> !p e)∧s.2.2.drop s.2.1=D.drop s.2.1∧∀ d∈s.2.2,d∈D) (fun s=>D.length - s.2.1) (P.length,P.length+1,D) ax ⟨by dsimp only;omega,by dsimp only;omega,rfl,?_,rfl,fun _ h=>h⟩ ?_
 ·dsimp only;rw [hti,aov,hfP,aor,ht,hPT,apm (by omega),an7];simp
 rintro ⟨i,j,X⟩ ⟨hij,hj,hX,hXt,hXd,hXm⟩;dsimp only at hij hj hX hXt hXd hXm ⊢;have hXz:∀ d∈X,(hdC d).length=34:=fun d hd=>hz d (hXm d hd)
 refine ad <| akw <| am5 Z Z Z <| ae Z <| akv ?_;refine de Z (fun h1=> ?_) (fun h1=> ?_)
 ·have h1':j<D.length:=by omega
  have hx:X[j]? = some D[j]:=by
   have:=am7 (·[0]?) hXd;simpa [aow,h1'] using this
  have hsn:D.take (j+1)=D.take j ++ [D[j]]:=ang h1';have fx:((flC hdC X).drop (j*34)).take 34=hdC D[j]:=by
   obtain ⟨hjX,hxe⟩:=ann.1 hx;rw [← hxe];exact pa hXz hjX
  have hym:=ana h1';have hcy:=hc _ hym;have hyl:=hz _ hym;have hyo:=ho _ hym;have hw:=vf (f:=hdC) (x:=D[j]) hXz hyl (i:=i) (by omega);have hXd2:X.drop (j+1)=D.drop (j+1):=by
   have:=am7 List.tail hXd;simpa [List.tail_drop] using this
  generalize hy:D[j]=y at *;have hel:=ju hXz;rw [hX] at hel;obtain ⟨e1,e2⟩:=kw (X:=X) (y:=y) hij (by omega);generalize hdC y=cs at *;refine ak <| ab <| ad <| am <| akw <| am4 Z Z <| az Z ?_;refine vw 0 (j*34) Z Z Z Z Z Z Z (by rw [bq,am6]) (by omega) fx (by rw [hyl];rfl) ?_;refine db Z Z Z Z Z fun g7=> ?_;refine fh 0 Z Z Z Z Z Z Z hyl hyo (by rw [hyl];rfl) ?_;refine aan <| ae Z ?_;refine du 0 Z Z Z Z Z Z (dj (by rw [hyl];rfl)) Z ?_;refine bg Z Z Z (hcy [pt g7 t_api_Held cs,row t_api_Held 34 (.slice (some ⟨gg,oo,none⟩) D.length c) D.length (flC hdC X)]) <| ae Z <| akv ?_;refine sm Z (fun q=> ?_) (fun q=> ?_)
  ·have q':p y=false:=by simpa using q
   refine akw <| am4 Z Z ?_;refine du 0 Z Z Z Z Z Z (dj (by rw [hyl];rfl)) Z ?_;refine az Z ?_;refine ym 1 (i*34) Z Z Z Z Z Z (by rw [hyl];rfl) Z hw Z (by rw [bq,am6]) (by rw [hel,hyl];omega) hyo ?_;refine akv <| aa <| ae Z <| az Z <| ae Z <| ac <| bh <| ab <| aa <| ae Z <| az Z <| ae Z <| ac ?_;rw [show (i:Int)+1=((i+1:Nat):Int) by omega,show (j:Int)+1=((j+1:Nat):Int) by omega];refine cw (i+1,j+1,X.set i y) (af 2 [1] Z) ⟨by dsimp only;omega,h1',by rw [app];exact hX,?_,?_,fun d hd=> ?_⟩
   ·dsimp only;rw [e1,hXt,hsn,aov,aor,q'];rfl
   ·dsimp only;rw [← hXd2];exact (kw (X:=X) (y:=y) (j:=j+1) (by omega) (by omega)).2
   ·rcases apd hd with h | h
    ·exact hXm d h
    ·rw [h];exact hym
  ·have q':p y=true:=by simpa using q
   refine ak <| bh <| ab <| aa <| ae Z <| az Z <| ae Z <| ac ?_;rw [show (j:Int)+1=((j+1:Nat):Int) by omega];refine cw (i,j+1,X) (af 2 [1] Z) ⟨by dsimp only;omega,h1',hX,?_,hXd2,hXm⟩;dsimp only;rw [hXt,hsn,aov,aor,q'];simp
 ·obtain rfl:j=D.length:=by omega
  rw [an7] at hXt;have hil:i=(D.filter fun e=> !p e).length:=by
   have:=am7 List.length hXt;rw [anm] at this;omega
  have e9:=hZ hXz i;rw [hXt] at e9;have hi1:((i:Int)).toNat=i:=am6 i;refine bz <| au <| av <| ap <| ab <| akw <| am4 Z Z <| az Z ?_;refine bm 38 (.slice (if c=i then some ⟨gg,oo,none⟩ else (some (⟨gg,oo,none⟩:Addr)).map (·.add (i*34))) (D.length - i) (c - i)) Z (by rw [hi1]) ?_;refine zp 0 Z Z Z Z Z Z Z Z Z Z (fun h=>by
   rw [if_neg (by omega)];simp only [aoh,Addr.add,ane]
   split <;> simp_all) (by omega) ?_
  rw [e9];refine aan <| am4 Z Z <| az Z <| ae Z <| akv <| ai <| ar Z Z ax ?_;rw [← hil];exact ⟨rfl,rfl⟩
end
section
variable {b:World} {F:List SP} {p:Ev→Bool} {f:Nat} [Bodied Tryz.prog f] {pre post:List Value} {D:List Ev} {va:Value}
 (hc:∀ d∈D,∀ B:List SP,SC Tryz.prog f (pre++([.agg ⟨evC d⟩]++post)) b (B++F) (fun u F'=>u = .bool (p d)∧F'=B++F)) (hz:∀ d∈D,(evC d).length=39)
include hc hz
theorem Xc (ha:∀ w,Sat b F w→SL w 39 va D.length (flC evC D)) (hn:D.length≤100000) :
  SC Tryz.prog oh [va,.func (.func f) ⟨pre⟩ ⟨post⟩] b F (fun u F'=>(∃ P T,D=P++T∧(∀ e∈P,p e=false)∧(∀ t T',T=t::T'→p t=true)∧u=ii (if T = [] then -1 else (P.length:Int)))∧F'=F):=by
 refine aw Tryz.func164 Z Z Z <| bu (fun w H=>cp (ha w H)) ?_;rintro ⟨A,c,rfl,_,_,_,h4,_⟩;refine akw <| ae Z <| akv <| ad <| akw <| am5 Z Z Z <| akv <| am ?_;refine dt (S:=Nat) (fun i=> [(0,.slice A D.length c),(1,.func (.func f) ⟨pre⟩ ⟨post⟩),(7,ii D.length),(8,ii i)]) (fun _=>F) (fun i=>i≤D.length∧∀ e∈D.take i,p e=false) (fun i=>D.length - i) 0 ax ⟨anq _,fun e he=>by simp at he⟩ ?_;rintro i ⟨hi,hP⟩;refine akw <| ae Z <| akv <| ad ?_;refine de Z (fun h1=> ?_) (fun h1=> ?_)
 ·have h1':i<D.length:=by omega
  obtain ⟨gg,oo,rfl⟩:=h4 (by omega);have ca:∀ w,Sat b F w→∀ j,j<39→w.cell? ⟨gg,oo+i*39+j,none⟩=(evC D[i])[j]?:=fun w H j hj=>fb (ha w H) hz h1' hj
  have hcy:=hc _ (ana h1');have hyl:=hz _ (ana h1');have hsn:D.take (i+1)=D.take i ++ [D[i]]:=ang h1';have hdr:D.drop i=D[i]::D.drop (i+1):=an8 h1';generalize hy:D[i]=y at *;generalize evC y=cs at *;refine ak <| ab <| ad <| am <| akw <| am4 Z Z <| aan <| am5 Z Z Z <| az Z ?_;refine fc Z (fun w H=>cg (cs:=cs) Z Z Z hyl (fun j hj=>by rw [bq,am6];exact ca w H j (by rw [hyl] at hj;exact hj))) Z ?_;refine bg Z Z Z (hcy []) <| akv ?_;refine sm Z (fun q=> ?_) (fun q=> ?_)
  ·refine akw <| am4 Z Z <| akv <| ai <| al <| ag <| cd <| al <| ag <| ar Z Z ax ?_;refine ⟨⟨D.take i,D.drop i,(an9 i D).symm,hP,fun t T' h=> ?_,?_⟩,rfl⟩
   ·rw [hdr] at h;cases h;exact q
   ·rw [hdr,if_neg (by simp),anm,apq hi];rfl
  ·refine ak <| bh <| ab <| aa <| az Z <| ae Z <| ac <| cw (i+1) ax ⟨h1',fun e he=> ?_⟩;rw [hsn] at he;rcases anr.1 he with he | he
   ·exact hP e he
   ·rw [anc.1 he];exact q
 ·obtain rfl:i=D.length:=by omega
  rw [an7] at hP;refine bz <| au <| av <| ap <| ab <| akw <| ae Z <| akv <| ai <| ar Z Z ax ?_;exact ⟨⟨D,[],by simp,hP,(fun t T' h=>by cases h),rfl⟩,rfl⟩
theorem ajx (ha:∀ w,Sat b F w→SL w 39 va D.length (flC evC D)) (hn:D.length≤100000) :
  SC Tryz.prog ng [va,.func (.func f) ⟨pre⟩ ⟨post⟩] b F (fun u F'=>u = .bool (D.any p)∧F'=F):=by
 refine aw Tryz.func234 Z Z Z <| akw <| ae Z <| aan <| am4 Z Z <| bf Z Z Z (Xc hc hz ha hn) ?_;rintro _ _ ⟨⟨P,T,hPT,hP,hT,rfl⟩,rfl⟩;have hfP:P.any p=false:=by rw [aqx];intro e he;rw [hP e he];simp
 cases T with
 | nil =>
  rw [if_pos rfl];refine am4 Z Z <| akv <| ai <| ar Z Z ax ?_;rw [hPT,anv,hfP];exact ⟨rfl,rfl⟩
 | cons t T =>
  rw [if_neg (by simp)];refine am4 Z Z <| akv <| ai <| ar Z Z ax ?_;rw [hPT,List.any_append,hfP,List.any_cons,hT t T rfl];exact ⟨am7 Value.bool (ani (by omega)),rfl⟩
theorem Xd {A:Option Addr} {c:Nat} (ho:∀ d∈D,∀ u∈evC d,u.oneCell'=true) (hn:D.length≤100000) :
  SC Tryz.prog n5 [.slice A D.length c,.func (.func f) ⟨pre⟩ ⟨post⟩] b (row ba 39 (.slice A D.length c) D.length (flC evC D)::F) (fun u F'=>u = .slice A (D.filter fun e=> !p e).length c∧F'=row ba 39 (.slice A (D.filter fun e=> !p e).length c) (D.filter fun e=> !p e).length (flC evC (D.filter fun e=> !p e))::F):=by
 have hc2:∀ (C:List SP),∀ d∈D,∀ B:List SP,SC Tryz.prog f (pre++([.agg ⟨evC d⟩]++post)) b (B++(C++F)) (fun u F'=>u = .bool (p d)∧F'=B++(C++F)):=fun C d hd B=>by
  have h:=hc d hd (B++C);rw [anh] at h;exact h
 refine aw Tryz.func72 Z Z Z <| akw <| ae Z <| aan <| am4 Z Z <| bf Z Z Z (Xc (hc2 [_]) hz (fun w H=>(H.oat (k:=0) Z).sl) hn) ?_;rintro _ _ ⟨⟨P,T,hPT,hP,hT,rfl⟩,rfl⟩;have hfP:P.filter (fun e=> !p e)=P:=aom.2 fun e he=>by rw [hP e he];rfl
 cases T with
 | nil =>
  rw [if_pos rfl];rw [anv] at hPT;subst hPT;rw [hfP];refine ae Z <| akv <| ad <| akw <| am4 Z Z <| akv <| ao Z <| akw <| am4 Z Z <| akv <| ai <| ag <| ar Z Z ax ?_;exact ⟨rfl,rfl⟩
 | cons t T =>
 rw [if_neg (by simp)];have ht:=hT t T Z;have hl:D.length=P.length+(T.length+1):=by rw [hPT,am9,anp]
 refine b9 (fun w H=>(H.oat (k:=0) Z).form) ?_;rintro ⟨A',c',hv,hnc,_,q3⟩;cases hv;obtain ⟨gg,oo,rfl⟩:=q3 (by omega);refine ae Z <| akv <| ad <| akw <| am4 Z Z <| akv <| aj Z <| ak <| ab <| ad <| akw <| ae Z <| az Z <| ae Z <| akv <| am ?_;rw [show (P.length:Int)+1=((P.length+1:Nat):Int) by omega];have hti:D.take (P.length+1)=P ++ [t]:=by
  rw [hPT,List.take_append,an1 (by omega),ao8];rfl
 refine dt (S:=Nat × Nat × List Ev) (fun s=> [(0,.slice (some ⟨gg,oo,none⟩) D.length c),(1,.func (.func f) ⟨pre⟩ ⟨post⟩),(5,ii s.1),(6,ii s.2.1)]) (fun s=>row ba 39 (.slice (some ⟨gg,oo,none⟩) D.length c) D.length (flC evC s.2.2)::F)
  (fun s=>s.1<s.2.1∧s.2.1≤D.length∧s.2.2.length=D.length∧s.2.2.take s.1=(D.take s.2.1).filter (fun e=> !p e)∧s.2.2.drop s.2.1=D.drop s.2.1∧∀ d∈s.2.2,d∈D) (fun s=>D.length - s.2.1) (P.length,P.length+1,D) ax ⟨by dsimp only;omega,by dsimp only;omega,rfl,?_,rfl,fun _ h=>h⟩ ?_
 ·dsimp only;rw [hti,aov,hfP,aor,ht,hPT,apm (by omega),an7];simp
 rintro ⟨i,j,X⟩ ⟨hij,hj,hX,hXt,hXd,hXm⟩;dsimp only at hij hj hX hXt hXd hXm ⊢;have hXz:∀ d∈X,(evC d).length=39:=fun d hd=>hz d (hXm d hd)
 refine ad <| akw <| am5 Z Z Z <| ae Z <| akv ?_;refine de Z (fun h1=> ?_) (fun h1=> ?_)
 ·have h1':j<D.length:=by omega
  have hx:X[j]? = some D[j]:=by
   have:=am7 (·[0]?) hXd;simpa [aow,h1'] using this
  have hsn:D.take (j+1)=D.take j ++ [D[j]]:=ang h1';have fx:((flC evC X).drop (j*39)).take 39=evC D[j]:=by
   obtain ⟨hjX,hxe⟩:=ann.1 hx;rw [← hxe];exact pa hXz hjX
  have hym:=ana h1';have hcy:=hc _ hym;have hyl:=hz _ hym;have hyo:=ho _ hym;have hw:=vf (f:=evC) (x:=D[j]) hXz hyl (i:=i) (by omega);have hXd2:X.drop (j+1)=D.drop (j+1):=by
   have:=am7 List.tail hXd;simpa [List.tail_drop] using this
  generalize hy:D[j]=y at *;have hel:=ju hXz;rw [hX] at hel;obtain ⟨e1,e2⟩:=kw (X:=X) (y:=y) hij (by omega);generalize evC y=cs at *;refine ak <| ab <| ad <| am <| akw <| am4 Z Z <| az Z ?_;refine vw 0 (j*39) Z Z Z Z Z Z Z (by rw [bq,am6]) (by omega) fx (by rw [hyl];rfl) ?_;refine db Z Z Z Z Z fun g7=> ?_;refine fh 0 Z Z Z Z Z Z Z hyl hyo (by rw [hyl];rfl) ?_;refine aan <| ae Z ?_;refine du 0 Z Z Z Z Z Z (dj (by rw [hyl];rfl)) Z ?_;refine bg Z Z Z (hcy [pt g7 ba cs,row ba 39 (.slice (some ⟨gg,oo,none⟩) D.length c) D.length (flC evC X)]) <| ae Z <| akv ?_;refine sm Z (fun q=> ?_) (fun q=> ?_)
  ·have q':p y=false:=by simpa using q
   refine akw <| am4 Z Z ?_;refine du 0 Z Z Z Z Z Z (dj (by rw [hyl];rfl)) Z ?_;refine az Z ?_;refine ym 1 (i*39) Z Z Z Z Z Z (by rw [hyl];rfl) Z hw Z (by rw [bq,am6]) (by rw [hel,hyl];omega) hyo ?_;refine akv <| aa <| ae Z <| az Z <| ae Z <| ac <| bh <| ab <| aa <| ae Z <| az Z <| ae Z <| ac ?_;rw [show (i:Int)+1=((i+1:Nat):Int) by omega,show (j:Int)+1=((j+1:Nat):Int) by omega];refine cw (i+1,j+1,X.set i y) (af 2 [1] Z) ⟨by dsimp only;omega,h1',by rw [app];exact hX,?_,?_,fun d hd=> ?_⟩
   ·dsimp only;rw [e1,hXt,hsn,aov,aor,q'];rfl
   ·dsimp only;rw [← hXd2];exact (kw (X:=X) (y:=y) (j:=j+1) (by omega) (by omega)).2
   ·rcases apd hd with h | h
    ·exact hXm d h
    ·rw [h];exact hym
  ·have q':p y=true:=by simpa using q
   refine ak <| bh <| ab <| aa <| ae Z <| az Z <| ae Z <| ac ?_;rw [show (j:Int)+1=((j+1:Nat):Int) by omega];refine cw (i,j+1,X) (af 2 [1] Z) ⟨by dsimp only;omega,h1',hX,?_,hXd2,hXm⟩;dsimp only;rw [hXt,hsn,aov,aor,q'];simp
 ·obtain rfl:j=D.length:=by omega
  rw [an7] at hXt;have hil:i=(D.filter fun e=> !p e).length:=by
   have:=am7 List.length hXt;rw [anm] at this;omega
  have e9:=hZ hXz i;rw [hXt] at e9;have hi1:((i:Int)).toNat=i:=am6 i;refine bz <| au <| av <| ap <| ab <| akw <| am4 Z Z <| az Z ?_;refine bm 38 (.slice (if c=i then some ⟨gg,oo,none⟩ else (some (⟨gg,oo,none⟩:Addr)).map (·.add (i*39))) (D.length - i) (c - i)) Z (by rw [hi1]) ?_;refine zp 0 Z Z Z Z Z Z Z Z Z Z (fun h=>by
   rw [if_neg (by omega)];simp only [aoh,Addr.add,ane]
   split <;> simp_all) (by omega) ?_
  rw [e9];refine aan <| am4 Z Z <| az Z <| ae Z <| akv <| ai <| ar Z Z ax ?_;rw [← hil];exact ⟨rfl,rfl⟩
end

def at0 {α:Type} (cm:α→Int):List α→Bool
 | [] => false
 | a :: _ => decide (cm a = 0)
section
variable {b:World} {F:List SP} {cm:Tg→Int} {f:Nat} [Bodied Tryz.prog f] {D:List Tg} {va:Value} {sx:ByteArray}
 (hc:∀ d∈D,∀ B:List SP,SC Tryz.prog f ([.agg ⟨tgC d⟩,.string sx]) b (B++F) (fun u F'=>u=ii (cm d)∧F'=B++F)) (hz:∀ d∈D,(tgC d).length=2)
include hc hz
theorem ajy (ha:∀ w,Sat b F w→SL w 2 va D.length (flC tgC D)) (hm:D.length≤1000000) (hs:∀ i j (hi:i<D.length) (hj:j<D.length),i<j→cm D[j]<0→cm D[i]<0) :
  SC Tryz.prog jp [va,.string sx,.func (.func f) ⟨[]⟩ ⟨[]⟩] b F (fun v F'=>(∃ l1 l2,D=l1++l2∧(∀ a∈l1,cm a<0)∧(∀ a∈l2,¬ cm a<0)∧v = .tuple ⟨[ii l1.length,.bool (at0 cm l2)]⟩)∧F'=F):=by
 refine aw Tryz.func227 Z Z Z <| bu (fun w H=>cp (ha w H)) ?_;rintro ⟨A,c,rfl,_,_,_,h4,_⟩;refine akw <| am4 Z Z <| aan <| am5 Z Z Z <| aan <| am5 Z Z Z <| akv <| ad <| am ?_;refine dt (S:=Nat × Nat) (fun s=> [(0,.slice A D.length c),(1,.string sx),(2,.func (.func f) ⟨[]⟩ ⟨[]⟩),(8,ii D.length),(9,ii s.1),(10,ii s.2)]) (fun _=>F)
  (fun s=>s.1≤s.2∧s.2≤D.length∧(∀ a∈D.take s.1,cm a<0)∧(∀ a∈D.drop s.2,¬ cm a<0)) (fun s=>s.2 - s.1) (0,D.length) ax
  ⟨anq _,aoc _,fun a h=>by simp at h,fun a h=>by simp at h⟩ ?_
 rintro ⟨i,j⟩ ⟨hij,hjn,hlo,hhi⟩;dsimp only at hij hjn hlo hhi ⊢;have ca:∀ {m:Nat} {gA oA:Nat} (hA:A=some ⟨gA,oA,none⟩) (hmn:m<D.length),∀ w,Sat b F w→∀ q,q<2→w.cell? ⟨gA,oA+m*2+q,none⟩=(tgC D[m])[q]?:=fun hA hmn w H q hq=>by
  subst hA;exact fb (ha w H) hz hmn hq
 refine ad <| akw <| am5 Z Z Z <| akv ?_;refine de Z (fun g1=> ?_) (fun g1=> ?_)
 ·refine ak <| ab <| am <| akw <| am4 Z Z <| az Z <| ae Z <| az Z <| am4 Z Z <| aan <| am5 Z Z Z ?_;rw [As (by omega)];obtain ⟨m,hm⟩:∃ m,m=(i+j) / 2:=⟨_,rfl⟩;rw [← hm];have hmn:m<D.length:=by omega
  obtain ⟨gA,oA,rfl⟩:=h4 (by omega);have cb:=ca Z hmn;have hcy:=hc _ (ana hmn);have hyl:=hz _ (ana hmn);obtain ⟨y,hy⟩:∃ y,y=D[m]:=⟨_,rfl⟩;rw [← hy] at cb hcy hyl;generalize tgC y=cs at *;refine az Z ?_;refine fc Z (fun w H=>cg (cs:=cs) Z Z Z hyl (fun q hq=>by rw [bq,am6];exact cb w H q (by rw [hyl] at hq;exact hq))) Z ?_;refine ae Z <| bg Z Z Z (hcy []) <| ae Z <| akv ?_;refine de Z (fun g2=> ?_) (fun g2=> ?_)
  ·refine aa <| ae Z <| az Z <| ae Z <| ac <| bh ?_;refine cw (m+1,j) ax ⟨by dsimp only;omega,hjn,fun a ha'=> ?_,hhi⟩;obtain ⟨q,hq1,hq2⟩:=arb.1 ha';dsimp only at hq1;subst hq2;rcases ap3 q m with hqm | hqm
   ·exact hs q m (by omega) hmn hqm (hy▸g2)
   ·have:q=m:=by omega
    subst this;rw [← hy];exact g2
  ·refine aa <| am4 Z Z <| ac <| bh ?_;refine cw (i,m) ax ⟨by dsimp only;omega,by dsimp only;omega,hlo,fun a ha'=> ?_⟩;obtain ⟨q,hq1,hq2⟩:=aqv.1 ha';dsimp only at hq1 hq2;subst hq2;rcases aoo q with hq0 | hq0
   ·subst hq0;rw [hy] at g2;exact g2
   ·exact fun h=>g2 (hy▸hs m (m+q) hmn (by omega) (by omega) h)
 ·have hji:j=i:=by omega
  subst hji;have hlen:(D.take j).length=j:=by rw [anm];omega
  refine bz <| au <| av <| ap <| ab <| akw ?_
  (iterate 5 refine ae Z ?_)
  by_cases hin:j<D.length
  ·obtain ⟨gA,oA,rfl⟩:=h4 (by omega);have cb:=ca Z hin;have hcy:=hc _ (ana hin);have hyl:=hz _ (ana hin);have hd:D.drop j=D[j]::D.drop (j+1):=an8 hin;generalize D[j]=y at *;generalize tgC y=cs at *;refine wz 39 Z <| am5 Z Z Z <| az Z ?_;refine fc Z (fun w H=>cg (cs:=cs) Z Z Z hyl (fun q hq=>by rw [bq,am6];exact cb w H q (by rw [hyl] at hq;exact hq))) Z ?_;refine ae Z <| bg Z Z Z (hcy []) <| am5 Z Z Z <| ae Z <| akv <| ai <| fz Z Z Z ax <| ⟨⟨D.take j,D.drop j,(an9 j D).symm,hlo,hhi,?_⟩,rfl⟩;rw [hlen,hd];rfl
  ·refine px 39 Z ?_
   (iterate 11 refine ae Z ?_)
   refine akv <| ai <| fz Z Z Z ax <| ⟨⟨D.take j,D.drop j,(an9 j D).symm,hlo,hhi,?_⟩,rfl⟩;rw [hlen,aqo (by omega)];rfl
end
section
variable {b:World} {F:List SP} {cm:Rp→Int} {f:Nat} [Bodied Tryz.prog f] {D:List Rp} {va:Value} {sx:ByteArray}
 (hc:∀ d∈D,∀ B:List SP,SC Tryz.prog f ([.agg ⟨rpC d⟩,.string sx]) b (B++F) (fun u F'=>u=ii (cm d)∧F'=B++F)) (hz:∀ d∈D,(rpC d).length=3)
include hc hz
theorem ajz (ha:∀ w,Sat b F w→SL w 3 va D.length (flC rpC D)) (hm:D.length≤1000000) (hs:∀ i j (hi:i<D.length) (hj:j<D.length),i<j→cm D[j]<0→cm D[i]<0) :
  SC Tryz.prog jj [va,.string sx,.func (.func f) ⟨[]⟩ ⟨[]⟩] b F (fun v F'=>(∃ l1 l2,D=l1++l2∧(∀ a∈l1,cm a<0)∧(∀ a∈l2,¬ cm a<0)∧v = .tuple ⟨[ii l1.length,.bool (at0 cm l2)]⟩)∧F'=F):=by
 refine aw Tryz.func220 Z Z Z <| bu (fun w H=>cp (ha w H)) ?_;rintro ⟨A,c,rfl,_,_,_,h4,_⟩;refine akw <| am4 Z Z <| aan <| am5 Z Z Z <| aan <| am5 Z Z Z <| akv <| ad <| am ?_;refine dt (S:=Nat × Nat) (fun s=> [(0,.slice A D.length c),(1,.string sx),(2,.func (.func f) ⟨[]⟩ ⟨[]⟩),(8,ii D.length),(9,ii s.1),(10,ii s.2)]) (fun _=>F)
  (fun s=>s.1≤s.2∧s.2≤D.length∧(∀ a∈D.take s.1,cm a<0)∧(∀ a∈D.drop s.2,¬ cm a<0)) (fun s=>s.2 - s.1) (0,D.length) ax
  ⟨anq _,aoc _,fun a h=>by simp at h,fun a h=>by simp at h⟩ ?_
 rintro ⟨i,j⟩ ⟨hij,hjn,hlo,hhi⟩;dsimp only at hij hjn hlo hhi ⊢;have ca:∀ {m:Nat} {gA oA:Nat} (hA:A=some ⟨gA,oA,none⟩) (hmn:m<D.length),∀ w,Sat b F w→∀ q,q<3→w.cell? ⟨gA,oA+m*3+q,none⟩=(rpC D[m])[q]?:=fun hA hmn w H q hq=>by
  subst hA;exact fb (ha w H) hz hmn hq
 refine ad <| akw <| am5 Z Z Z <| akv ?_;refine de Z (fun g1=> ?_) (fun g1=> ?_)
 ·refine ak <| ab <| am <| akw <| am4 Z Z <| az Z <| ae Z <| az Z <| am4 Z Z <| aan <| am5 Z Z Z ?_;rw [As (by omega)];obtain ⟨m,hm⟩:∃ m,m=(i+j) / 2:=⟨_,rfl⟩;rw [← hm];have hmn:m<D.length:=by omega
  obtain ⟨gA,oA,rfl⟩:=h4 (by omega);have cb:=ca Z hmn;have hcy:=hc _ (ana hmn);have hyl:=hz _ (ana hmn);obtain ⟨y,hy⟩:∃ y,y=D[m]:=⟨_,rfl⟩;rw [← hy] at cb hcy hyl;generalize rpC y=cs at *;refine az Z ?_;refine fc Z (fun w H=>cg (cs:=cs) Z Z Z hyl (fun q hq=>by rw [bq,am6];exact cb w H q (by rw [hyl] at hq;exact hq))) Z ?_;refine ae Z <| bg Z Z Z (hcy []) <| ae Z <| akv ?_;refine de Z (fun g2=> ?_) (fun g2=> ?_)
  ·refine aa <| ae Z <| az Z <| ae Z <| ac <| bh ?_;refine cw (m+1,j) ax ⟨by dsimp only;omega,hjn,fun a ha'=> ?_,hhi⟩;obtain ⟨q,hq1,hq2⟩:=arb.1 ha';dsimp only at hq1;subst hq2;rcases ap3 q m with hqm | hqm
   ·exact hs q m (by omega) hmn hqm (hy▸g2)
   ·have:q=m:=by omega
    subst this;rw [← hy];exact g2
  ·refine aa <| am4 Z Z <| ac <| bh ?_;refine cw (i,m) ax ⟨by dsimp only;omega,by dsimp only;omega,hlo,fun a ha'=> ?_⟩;obtain ⟨q,hq1,hq2⟩:=aqv.1 ha';dsimp only at hq1 hq2;subst hq2;rcases aoo q with hq0 | hq0
   ·subst hq0;rw [hy] at g2;exact g2
   ·exact fun h=>g2 (hy▸hs m (m+q) hmn (by omega) (by omega) h)
 ·have hji:j=i:=by omega
  subst hji;have hlen:(D.take j).length=j:=by rw [anm];omega
  refine bz <| au <| av <| ap <| ab <| akw ?_
  (iterate 5 refine ae Z ?_)
  by_cases hin:j<D.length
  ·obtain ⟨gA,oA,rfl⟩:=h4 (by omega);have cb:=ca Z hin;have hcy:=hc _ (ana hin);have hyl:=hz _ (ana hin);have hd:D.drop j=D[j]::D.drop (j+1):=an8 hin;generalize D[j]=y at *;generalize rpC y=cs at *;refine wz 39 Z <| am5 Z Z Z <| az Z ?_;refine fc Z (fun w H=>cg (cs:=cs) Z Z Z hyl (fun q hq=>by rw [bq,am6];exact cb w H q (by rw [hyl] at hq;exact hq))) Z ?_;refine ae Z <| bg Z Z Z (hcy []) <| am5 Z Z Z <| ae Z <| akv <| ai <| fz Z Z Z ax <| ⟨⟨D.take j,D.drop j,(an9 j D).symm,hlo,hhi,?_⟩,rfl⟩;rw [hlen,hd];rfl
  ·refine px 39 Z ?_
   (iterate 11 refine ae Z ?_)
   refine akv <| ai <| fz Z Z Z ax <| ⟨⟨D.take j,D.drop j,(an9 j D).symm,hlo,hhi,?_⟩,rfl⟩;rw [hlen,aqo (by omega)];rfl
end
section
variable {b:World} {F:List SP} {cm:Hd→Int} {f:Nat} [Bodied Tryz.prog f] {D:List Hd} {va:Value} {x:Hd}
 (hc:∀ d∈D,∀ B:List SP,SC Tryz.prog f ([.agg ⟨hdC d⟩,hdV x]) b (B++F) (fun u F'=>u=ii (cm d)∧F'=B++F)) (hz:∀ d∈D,(hdC d).length=34)
include hc hz
theorem aj0 (hx:x.id.length=32) (ha:∀ w,Sat b F w→SL w 34 va D.length (flC hdC D)) (hm:D.length≤1000000) (hs:∀ i j (hi:i<D.length) (hj:j<D.length),i<j→cm D[j]<0→cm D[i]<0) :
  SC Tryz.prog kd [va,hdV x,.func (.func f) ⟨[]⟩ ⟨[]⟩] b F (fun v F'=>(∃ l1 l2,D=l1++l2∧(∀ a∈l1,cm a<0)∧(∀ a∈l2,¬ cm a<0)∧v = .tuple ⟨[ii l1.length,.bool (at0 cm l2)]⟩)∧F'=F):=by
 refine aw Tryz.func223 Z Z Z <| bu (fun w H=>cp (ha w H)) ?_;rintro ⟨A,c,rfl,_,_,_,h4,_⟩;refine akw <| bx Z Z Z Z Z fun g4=>am4 Z Z <| aan <| am5 Z Z Z <| aan <| am5 Z Z Z <| akv <| ad <| am ?_
 refine dt (S:=Nat × Nat) (fun s=> [(0,.slice A D.length c),(4,pp g4),(2,.func (.func f) ⟨[]⟩ ⟨[]⟩),(8,ii D.length),(9,ii s.1),(10,ii s.2)]) (fun _=>pt g4 t_api_Held (hdC x)::F)
  (fun s=>s.1≤s.2∧s.2≤D.length∧(∀ a∈D.take s.1,cm a<0)∧(∀ a∈D.drop s.2,¬ cm a<0)) (fun s=>s.2 - s.1) (0,D.length) ax
  ⟨anq _,aoc _,fun a h=>by simp at h,fun a h=>by simp at h⟩ ?_
 rintro ⟨i,j⟩ ⟨hij,hjn,hlo,hhi⟩;dsimp only at hij hjn hlo hhi ⊢;have ca:∀ {m:Nat} {gA oA:Nat} (hA:A=some ⟨gA,oA,none⟩) (hmn:m<D.length),∀ w,Sat b F w→∀ q,q<34→w.cell? ⟨gA,oA+m*34+q,none⟩=(hdC D[m])[q]?:=fun hA hmn w H q hq=>by
  subst hA;exact fb (ha w H) hz hmn hq
 refine ad <| akw <| am5 Z Z Z <| akv ?_;refine de Z (fun g1=> ?_) (fun g1=> ?_)
 ·refine ak <| ab <| am <| akw <| am4 Z Z <| az Z <| ae Z <| az Z <| am4 Z Z <| akv <| ad ?_;rw [As (by omega)];obtain ⟨m,hm⟩:∃ m,m=(i+j) / 2:=⟨_,rfl⟩;rw [← hm];have hmn:m<D.length:=by omega
  obtain ⟨gA,oA,rfl⟩:=h4 (by omega);have cb:=ca Z hmn;have hcy:=hc _ (ana hmn);have hyl:=hz _ (ana hmn);obtain ⟨y,hy⟩:∃ y,y=D[m]:=⟨_,rfl⟩;rw [← hy] at cb hcy hyl;generalize hdC y=cs at *
  skip
  refine cn flo _ (by decide +kernel) ax <| ay Z Zl <| ay Z Zl <| ay Z Zl <| cq Z Z ?_;refine ij Z (fun w H=>cg (cs:=cs) Z Z Z hyl (fun q hq=>by rw [bq,am6];exact cb w (H.ent (af 1 [] Z)) q (by rw [hyl] at hq;exact hq))) Z Z ?_;refine js 0 Z Z Z Z Z Z (dj (by rw [mu hx];rfl)) Z Z ?_;refine dh Z Z Z Z (hcy [_]) ax <| ay Z Zl <| aq <| ab ?_;refine de Z (fun g2=> ?_) (fun g2=> ?_)
  ·refine aa <| ae Z <| az Z <| ae Z <| ac <| bh ?_;refine cw (m+1,j) ax ⟨by dsimp only;omega,hjn,fun a ha'=> ?_,hhi⟩;obtain ⟨q,hq1,hq2⟩:=arb.1 ha';dsimp only at hq1;subst hq2;rcases ap3 q m with hqm | hqm
   ·exact hs q m (by omega) hmn hqm (hy▸g2)
   ·have:q=m:=by omega
    subst this;rw [← hy];exact g2
  ·refine aa <| am4 Z Z <| ac <| bh ?_;refine cw (i,m) ax ⟨by dsimp only;omega,by dsimp only;omega,hlo,fun a ha'=> ?_⟩;obtain ⟨q,hq1,hq2⟩:=aqv.1 ha';dsimp only at hq1 hq2;subst hq2;rcases aoo q with hq0 | hq0
   ·subst hq0;rw [hy] at g2;exact g2
   ·exact fun h=>g2 (hy▸hs m (m+q) hmn (by omega) (by omega) h)
 ·have hji:j=i:=by omega
  subst hji;have hlen:(D.take j).length=j:=by rw [anm];omega
  refine bz <| au <| av <| ap <| ab <| ad <| cn flo _ (by decide +kernel) ax ?_
  (iterate 5 refine ay Z Zl ?_)
  by_cases hin:j<D.length
  ·obtain ⟨gA,oA,rfl⟩:=h4 (by omega);have cb:=ca Z hin;have hcy:=hc _ (ana hin);have hyl:=hz _ (ana hin);have hd:D.drop j=D[j]::D.drop (j+1):=an8 hin;generalize D[j]=y at *;generalize hdC y=cs at *;refine yn 39 Z (by omega) <| ay Z Zl <| ay Z Zl <| ay Z Zl <| cq Z Z ?_;refine ij Z (fun w H=>cg (cs:=cs) Z Z Z hyl (fun q hq=>by rw [bq,am6];exact cb w (H.ent (af 1 [] Z)) q (by rw [hyl] at hq;exact hq))) Z Z ?_;refine js 0 Z Z Z Z Z Z (dj (by rw [mu hx];rfl)) Z Z ?_;refine dh Z Z Z Z (hcy [_]) ax <| ay Z Zl <| ay Z Zl <| ay Z Zl <| ay Z Zl <| aq <| ab <| ai <| fz Z Z Z (af 1 [] Z) <| ⟨⟨D.take j,D.drop j,(an9 j D).symm,hlo,hhi,?_⟩,rfl⟩;rw [hlen,hd];rfl
  ·refine vr 39 Z (by omega) ?_
   (iterate 6 refine ay Z Zl ?_)
   refine ay Z (.inr Z) <| ay Z Zl <| ay Z Zl <| ay Z Zl <| ay Z Zl <| aq <| ab <| ai <| fz Z Z Z (af 1 [] Z) <| ⟨⟨D.take j,D.drop j,(an9 j D).symm,hlo,hhi,?_⟩,rfl⟩;rw [hlen,aqo (by omega)];rfl
end

section
variable {b:World} {F:List SP} {l1 l2:List Tg} {x:Tg} {gl c:Nat} {A:Option Addr}
theorem Zo (h1:∀ d∈l1,(tgC d).length=2) (h2:∀ d∈l2,(tgC d).length=2) (xl:(tgC x).length=2) (o2:∀ d∈l2,∀ u∈tgC d,u.oneCell'=true) (xo:∀ u∈tgC x,u.oneCell'=true) (hm:(l1++l2).length≤1000000) :
  SC Tryz.prog nf [.slice A (l1++l2).length c,ii l1.length,.slice (some ⟨gl,0,none⟩) 1 1] b (row dx 2 (.slice A (l1++l2).length c) (l1++l2).length (flC tgC (l1++l2))::pt gl dx (tgC x)::F) (fun v F'=>F'=row dx 2 v (l1++x::l2).length (flC tgC (l1++x::l2))::F):=by
 have hl1:(flC tgC l1).length=l1.length*2:=ju h1;have hl2:(flC tgC l2).length=l2.length*2:=ju h2;have hn:(l1++l2).length=l1.length+l2.length:=am9;have hfin:flC tgC (l1++x::l2)=flC tgC l1++tgC x++flC tgC l2:=by rw [fu,flC,anh]
 have hfl:(l1++x::l2).length=l1.length+l2.length+1:=by rw [am9,anp];omega
 have ho2:∀ u∈flC tgC l2,u.oneCell'=true:=cK o2;have e1:flC tgC (l1 ++ [x])=flC tgC l1++tgC x:=by rw [fu,flC,flC,anv]
 generalize tgC x=cs at *;refine aw Tryz.func229 Z Z Z <| bu (fun w H=>(H.oat (k:=0) Z).form) ?_;rintro ⟨A',c',hv,q1,q2,q3⟩;cases hv;refine akw <| ae Z <| aan <| am4 Z Z <| az Z <| aan <| am5 Z Z Z <| akv <| ad <| akw <| am4 Z Z <| akv <| aj Z <| ak <| ab <| akw <| am5 Z Z Z <| akv <| ad <| akw <| am5 Z Z Z <| akv ?_;by_cases he:l2 = []
 ·subst he;rw [anv] at *;refine dK 22 Z Z <| ao Z <| akw <| am4 Z Z ?_;refine ef 0 Z Z Z Z Z Z Z Z Z (m:=1) (news:=cs) (fun w H=>(H.blk (k:=1) Z).sl (by rw [xl]) (by decide)) xo (by omega) (fun _=>rfl) fun v2=> ?_;refine ae Z <| akv <| ai <| ag ?_;rw [← e1];have e2:l1.length+1=(l1 ++ [x]).length:=by simp
  rw [e2];refine ar Z Z (af 2 [0] Z) ?_
  rfl
 have hl20:0<l2.length:=arh.2 he;refine oe 22 Z <| aj Z <| ak <| ab <| ad <| akw <| am4 Z Z <| az Z <| am5 Z Z Z <| akv ?_;have hpre:(flC tgC (l1++l2)).take (l1.length*2)=flC tgC l1:=by rw [fu,← hl1,ape rfl]
 have hpost:(flC tgC (l1++l2)).drop (l1.length*2)=flC tgC l2:=by rw [fu,← hl1,apo rfl]
 obtain ⟨gA,oA,rfl⟩:=q3 (by omega);by_cases hc:c<(l1++l2).length+1
 ·refine dL 31 Z <| ao Z <| akw <| am4 Z Z <| az Z <| am4 Z Z <| az Z <| ae Z <| az Z ?_;refine bm 34 (.slice (some ⟨gA,oA,none⟩) l1.length c) Z (by simp) ?_;refine bm 39 (ii ((l2.length+1:Nat):Int)) Z (by congr 1;omega) ?_;refine lL (cs:=flC tgC l1) (j:=l1.length) (m:=l2.length+1) (c:=c) Z Z Z Z Z Z Z Z Z (fun w H=>by have:=((H.oat (k:=0) Z).take (k:=l1.length) (by omega)).sl;rwa [hpre] at this) (by omega) (by omega) (by omega) fun gg c2 zs hzs=> ?_;refine b9 (fun w H=>(H.oat (k:=0) Z).form) ?_;rintro ⟨_,_,hv2,p1,p2,_⟩;cases hv2;have hz0:(flC tgC l1++zs).length=(l1.length+l2.length+1)*2:=by rw [am9,hl1,hzs];omega
  refine ae Z <| aan <| am4 Z Z <| az Z <| ae Z ?_;refine bm 43 (.slice (some ⟨gg,l1.length*2,none⟩) (l2.length+1) (c2 - l1.length)) Z (by
   simp only [am6];rw [if_neg (by omega)];simp only [aoh,Addr.add];rw [show l1.length+(l2.length+1) - l1.length=l2.length+1 by omega]
   split <;> simp_all) ?_
  refine nr 0 (l1.length*2) (m:=1) (news:=cs) (cs':=flC tgC l1++cs++zs.drop 2) Z Z Z Z Z Z Z Z Z (by rw [show min 1 (l2.length+1)=1 by omega,an1 (by omega),← hl1,m9,xl]) Z (by omega) (fun w H=>(H.blk (k:=2) Z).sl (by rw [xl]) (by decide)) (by rw [hz0];omega) (fun u hu=>xo u (aon hu)) ?_;refine akv <| ad <| cn flo F (by decide +kernel) (af 3 [] Z) <| ay Z Zl <| ay Z Zl <| ay Z Zl <| cq Z Z <| cq Z Z <| ay Z Zl <| ay Z Zl <| cq Z Z ?_;refine cz 50 (.slice (some ⟨gg,(l1.length+1)*2,none⟩) l2.length (c2 - (l1.length+1))) Z (by
   rw [show ((l1.length:Int)+((1:Nat):Int)).toNat=l1.length+1 by omega,if_neg (by omega)];simp only [aoh,Addr.add];rw [show l1.length+(l2.length+1) - (l1.length+1)=l2.length by omega]
   split <;> simp_all) ?_
  refine cz 53 (.slice (if c=l1.length then some ⟨gA,oA,none⟩ else (some (⟨gA,oA,none⟩:Addr)).map (·.add (l1.length*2))) l2.length (c - l1.length)) Z (by
   simp only [am6];rw [show (l1++l2).length - l1.length=l2.length by omega]) ?_
  refine nt 0 ((l1.length+1)*2) (m:=l2.length) (news:=flC tgC l2) (cs':=flC tgC l1++cs++flC tgC l2) Z Z Z Z Z Z Z Z Z Z (by
   rw [Nat.min_self,an1 (by omega),show (l1.length+1)*2=(flC tgC l1++cs).length by rw [am9,hl1,xl];omega,m9,aog (by rw [aoi,hzs,hl2];omega),anv]) Z (by omega) (fun w H=>by
   have:=((H.oat (k:=1) Z).drop (k:=l1.length) (by omega)).sl;rwa [hpost,show (l1++l2).length - l1.length=l2.length by omega] at this) (by simp only [am9,aoi,hl1,xl,hzs];omega) (fun u hu=>ho2 u (aon hu)) (af 3 [] Z) ?_
  refine aq <| ab <| akw <| am4 Z Z <| akv <| ai <| ag ?_;rw [← hfin,show l1.length+(l2.length+1)=(l1++x::l2).length by omega];refine ar Z Z (af 3 [0] Z) ?_
  rfl
 refine oe 31 Z <| aj Z <| ak <| ab <| akw <| am5 Z Z Z <| az Z <| az Z <| ae Z <| akv <| ad <| akw <| am5 Z Z Z <| ae Z <| az Z <| az Z ?_;refine bm 0 (.slice (some ⟨gA,oA,none⟩) ((l1++l2).length+1) c) Z (by
  rw [show (((l1++l2).length:Int)+((1:Nat):Int)).toNat=(l1++l2).length+1 by omega]) ?_
 refine gU 0 Z (by omega) (fun _=>rfl) fun zs hzs=> ?_;have hN:(l1++l2).length+1=l1.length+(l2.length+1):=by omega
 have hI:(flC tgC (l1++l2)).length=(l1++l2).length*2:=by rw [fu,am9,hl1,hl2];omega
 have hbase:flC tgC (l1++l2)++zs=flC tgC l1++(flC tgC l2++zs):=by rw [fu,anh]
 skip
 refine bm 66 (.slice (some ⟨gA,oA+(l1.length+1)*2,none⟩) l2.length (c - (l1.length+1))) Z (by
  rw [show ((l1.length:Int)+((1:Nat):Int)).toNat=l1.length+1 by omega,if_neg (by omega)];simp only [aoh,Addr.add];rw [show (((l1++l2).length:Int)+((1:Nat):Int)).toNat - (l1.length+1)=l2.length by omega]
  split <;> simp_all) ?_
 refine zH (tS:=mB) (tR:=tb) 1 0 Z Z Z Tryz.func266 (by kernel_rfl) (by kernel_rfl) (by kernel_rfl) (by kernel_rfl) Z Z Z Z Z (by omega) ?_;refine ae Z <| akv <| ao Z <| ad <| cn flo F (by decide +kernel) (af 2 [] Z) <| ay Z Zl <| ay Z Zl <| ay Z Zl <| cq Z Z <| cq Z Z <| ay Z Zl <| ay Z Zl <| cq Z Z ?_;refine cz 73 (.slice (some ⟨gA,oA+(l1.length+1)*2,none⟩) l2.length (c - (l1.length+1))) Z (by
  rw [show ((l1.length:Int)+((1:Nat):Int)).toNat=l1.length+1 by omega,if_neg (by omega)];simp only [aoh,Addr.add];rw [show (l1++l2).length+1 - (l1.length+1)=l2.length by omega]
  split <;> simp_all) ?_
 refine cz 76 (.slice (if c=l1.length then some ⟨gA,oA,none⟩ else (some (⟨gA,oA,none⟩:Addr)).map (·.add (l1.length*2))) (l2.length+1) (c - l1.length)) Z (by
  simp only [am6];rw [show (l1++l2).length+1 - l1.length=l2.length+1 by omega]) ?_
 have hw:(flC tgC l2++zs).length=(l2.length+1)*2:=by rw [am9,hl2,hzs];omega
 refine nt 0 ((l1.length+1)*2) (m:=l2.length+1) (news:=flC tgC l2++zs) (cs':=flC tgC l1++(flC tgC l2++zs).take 2++flC tgC l2) Z Z Z Z Z Z Z Z Z Z (by
  rw [show min (l2.length+1) l2.length=l2.length by omega,ape hl2,hbase];have e1:flC tgC l1++(flC tgC l2++zs)=(flC tgC l1++(flC tgC l2++zs).take 2)++(flC tgC l2++zs).drop 2:=by rw [anh,an9]
  rw [e1,show (l1.length+1)*2=(flC tgC l1++(flC tgC l2++zs).take 2).length by rw [am9,anm,hl1,hw];omega,m9,aog (by rw [aoi,hw,hl2];omega),anv]) Z (by omega) (fun w H=>by
  have:=((H.oat (k:=0) Z).drop (k:=l1.length) (by omega)).sl;rwa [hbase,← hl1,apo rfl,hl1,show (l1++l2).length+1 - l1.length=l2.length+1 by omega] at this) (by rw [am9,hI,hzs];omega) (fun u hu=>by
  rw [show min (l2.length+1) l2.length=l2.length by omega,ape hl2] at hu;exact ho2 u hu) (af 2 [] Z) ?_
 refine aq <| ab <| akw <| am4 Z Z <| az Z <| ae Z ?_;refine bm 80 (.slice (some ⟨gA,oA+l1.length*2,none⟩) (l2.length+1) (c - l1.length)) Z (by
  simp only [am6];rw [if_neg (by omega)];simp only [aoh,Addr.add];rw [show (l1++l2).length+1 - l1.length=l2.length+1 by omega]
  split <;> simp_all) ?_
 refine nr 0 (l1.length*2) (m:=1) (news:=cs) (cs':=flC tgC l1++cs++flC tgC l2) Z Z Z Z Z Z Z Z Z (by
  rw [show min 1 (l2.length+1)=1 by omega,an1 (l:=cs) (by omega),← hl1,anh (flC tgC l1),m9,xl,apo (by rw [anm,hw];omega)]) Z (by omega) (fun w H=>(H.blk (k:=1) Z).sl (by rw [xl]) (by decide)) (by simp only [am9,anm,hl1,hl2,hzs];omega) (fun u hu=>xo u (aon hu)) ?_
 refine aan <| am4 Z Z <| akv <| ai <| ag ?_;rw [← hfin,show (l1++l2).length+1=(l1++x::l2).length by omega];refine ar Z Z (af 2 [0] Z) ?_
 rfl
end
section
variable {b:World} {F:List SP} {l1 l2:List Rp} {x:Rp} {gl c:Nat} {A:Option Addr}
theorem Zp (h1:∀ d∈l1,(rpC d).length=3) (h2:∀ d∈l2,(rpC d).length=3) (xl:(rpC x).length=3) (o2:∀ d∈l2,∀ u∈rpC d,u.oneCell'=true) (xo:∀ u∈rpC x,u.oneCell'=true) (hm:(l1++l2).length≤1000000) :
  SC Tryz.prog mx [.slice A (l1++l2).length c,ii l1.length,.slice (some ⟨gl,0,none⟩) 1 1] b (row bi 3 (.slice A (l1++l2).length c) (l1++l2).length (flC rpC (l1++l2))::pt gl bi (rpC x)::F) (fun v F'=>F'=row bi 3 v (l1++x::l2).length (flC rpC (l1++x::l2))::F):=by
 have hl1:(flC rpC l1).length=l1.length*3:=ju h1;have hl2:(flC rpC l2).length=l2.length*3:=ju h2;have hn:(l1++l2).length=l1.length+l2.length:=am9;have hfin:flC rpC (l1++x::l2)=flC rpC l1++rpC x++flC rpC l2:=by rw [fu,flC,anh]
 have hfl:(l1++x::l2).length=l1.length+l2.length+1:=by rw [am9,anp];omega
 have ho2:∀ u∈flC rpC l2,u.oneCell'=true:=cK o2;have e1:flC rpC (l1 ++ [x])=flC rpC l1++rpC x:=by rw [fu,flC,flC,anv]
 generalize rpC x=cs at *;refine aw Tryz.func222 Z Z Z <| bu (fun w H=>(H.oat (k:=0) Z).form) ?_;rintro ⟨A',c',hv,q1,q2,q3⟩;cases hv;refine akw <| ae Z <| aan <| am4 Z Z <| az Z <| aan <| am5 Z Z Z <| akv <| ad <| akw <| am4 Z Z <| akv <| aj Z <| ak <| ab <| akw <| am5 Z Z Z <| akv <| ad <| akw <| am5 Z Z Z <| akv ?_;by_cases he:l2 = []
 ·subst he;rw [anv] at *;refine dK 22 Z Z <| ao Z <| akw <| am4 Z Z ?_;refine ef 0 Z Z Z Z Z Z Z Z Z (m:=1) (news:=cs) (fun w H=>(H.blk (k:=1) Z).sl (by rw [xl]) (by decide)) xo (by omega) (fun _=>rfl) fun v2=> ?_;refine ae Z <| akv <| ai <| ag ?_;rw [← e1];have e2:l1.length+1=(l1 ++ [x]).length:=by simp
  rw [e2];refine ar Z Z (af 2 [0] Z) ?_
  rfl
 have hl20:0<l2.length:=arh.2 he;refine oe 22 Z <| aj Z <| ak <| ab <| ad <| akw <| am4 Z Z <| az Z <| am5 Z Z Z <| akv ?_;have hpre:(flC rpC (l1++l2)).take (l1.length*3)=flC rpC l1:=by rw [fu,← hl1,ape rfl]
 have hpost:(flC rpC (l1++l2)).drop (l1.length*3)=flC rpC l2:=by rw [fu,← hl1,apo rfl]
 obtain ⟨gA,oA,rfl⟩:=q3 (by omega);by_cases hc:c<(l1++l2).length+1
 ·refine dL 31 Z <| ao Z <| akw <| am4 Z Z <| az Z <| am4 Z Z <| az Z <| ae Z <| az Z ?_;refine bm 34 (.slice (some ⟨gA,oA,none⟩) l1.length c) Z (by simp) ?_;refine bm 39 (ii ((l2.length+1:Nat):Int)) Z (by congr 1;omega) ?_;refine lL (cs:=flC rpC l1) (j:=l1.length) (m:=l2.length+1) (c:=c) Z Z Z Z Z Z Z Z Z (fun w H=>by have:=((H.oat (k:=0) Z).take (k:=l1.length) (by omega)).sl;rwa [hpre] at this) (by omega) (by omega) (by omega) fun gg c2 zs hzs=> ?_;refine b9 (fun w H=>(H.oat (k:=0) Z).form) ?_;rintro ⟨_,_,hv2,p1,p2,_⟩;cases hv2;have hz0:(flC rpC l1++zs).length=(l1.length+l2.length+1)*3:=by rw [am9,hl1,hzs];omega
  refine ae Z <| aan <| am4 Z Z <| az Z <| ae Z ?_;refine bm 43 (.slice (some ⟨gg,l1.length*3,none⟩) (l2.length+1) (c2 - l1.length)) Z (by
   simp only [am6];rw [if_neg (by omega)];simp only [aoh,Addr.add];rw [show l1.length+(l2.length+1) - l1.length=l2.length+1 by omega]
   split <;> simp_all) ?_
  refine nr 0 (l1.length*3) (m:=1) (news:=cs) (cs':=flC rpC l1++cs++zs.drop 3) Z Z Z Z Z Z Z Z Z (by rw [show min 1 (l2.length+1)=1 by omega,an1 (by omega),← hl1,m9,xl]) Z (by omega) (fun w H=>(H.blk (k:=2) Z).sl (by rw [xl]) (by decide)) (by rw [hz0];omega) (fun u hu=>xo u (aon hu)) ?_;refine akv <| ad <| cn flo F (by decide +kernel) (af 3 [] Z) <| ay Z Zl <| ay Z Zl <| ay Z Zl <| cq Z Z <| cq Z Z <| ay Z Zl <| ay Z Zl <| cq Z Z ?_;refine cz 50 (.slice (some ⟨gg,(l1.length+1)*3,none⟩) l2.length (c2 - (l1.length+1))) Z (by
   rw [show ((l1.length:Int)+((1:Nat):Int)).toNat=l1.length+1 by omega,if_neg (by omega)];simp only [aoh,Addr.add];rw [show l1.length+(l2.length+1) - (l1.length+1)=l2.length by omega]
   split <;> simp_all) ?_
  refine cz 53 (.slice (if c=l1.length then some ⟨gA,oA,none⟩ else (some (⟨gA,oA,none⟩:Addr)).map (·.add (l1.length*3))) l2.length (c - l1.length)) Z (by
   simp only [am6];rw [show (l1++l2).length - l1.length=l2.length by omega]) ?_
  refine nt 0 ((l1.length+1)*3) (m:=l2.length) (news:=flC rpC l2) (cs':=flC rpC l1++cs++flC rpC l2) Z Z Z Z Z Z Z Z Z Z (by
   rw [Nat.min_self,an1 (by omega),show (l1.length+1)*3=(flC rpC l1++cs).length by rw [am9,hl1,xl];omega,m9,aog (by rw [aoi,hzs,hl2];omega),anv]) Z (by omega) (fun w H=>by
   have:=((H.oat (k:=1) Z).drop (k:=l1.length) (by omega)).sl;rwa [hpost,show (l1++l2).length - l1.length=l2.length by omega] at this) (by simp only [am9,aoi,hl1,xl,hzs];omega) (fun u hu=>ho2 u (aon hu)) (af 3 [] Z) ?_
  refine aq <| ab <| akw <| am4 Z Z <| akv <| ai <| ag ?_;rw [← hfin,show l1.length+(l2.length+1)=(l1++x::l2).length by omega];refine ar Z Z (af 3 [0] Z) ?_
  rfl
 refine oe 31 Z <| aj Z <| ak <| ab <| akw <| am5 Z Z Z <| az Z <| az Z <| ae Z <| akv <| ad <| akw <| am5 Z Z Z <| ae Z <| az Z <| az Z ?_;refine bm 0 (.slice (some ⟨gA,oA,none⟩) ((l1++l2).length+1) c) Z (by
  rw [show (((l1++l2).length:Int)+((1:Nat):Int)).toNat=(l1++l2).length+1 by omega]) ?_
 refine gU 0 Z (by omega) (fun _=>rfl) fun zs hzs=> ?_;have hN:(l1++l2).length+1=l1.length+(l2.length+1):=by omega
 have hI:(flC rpC (l1++l2)).length=(l1++l2).length*3:=by rw [fu,am9,hl1,hl2];omega
 have hbase:flC rpC (l1++l2)++zs=flC rpC l1++(flC rpC l2++zs):=by rw [fu,anh]
 skip
 refine bm 66 (.slice (some ⟨gA,oA+(l1.length+1)*3,none⟩) l2.length (c - (l1.length+1))) Z (by
  rw [show ((l1.length:Int)+((1:Nat):Int)).toNat=l1.length+1 by omega,if_neg (by omega)];simp only [aoh,Addr.add];rw [show (((l1++l2).length:Int)+((1:Nat):Int)).toNat - (l1.length+1)=l2.length by omega]
  split <;> simp_all) ?_
 refine zH (tS:=kC) (tR:=tb) 1 0 Z Z Z Tryz.func261 (by kernel_rfl) (by kernel_rfl) (by kernel_rfl) (by kernel_rfl) Z Z Z Z Z (by omega) ?_;refine ae Z <| akv <| ao Z <| ad <| cn flo F (by decide +kernel) (af 2 [] Z) <| ay Z Zl <| ay Z Zl <| ay Z Zl <| cq Z Z <| cq Z Z <| ay Z Zl <| ay Z Zl <| cq Z Z ?_;refine cz 73 (.slice (some ⟨gA,oA+(l1.length+1)*3,none⟩) l2.length (c - (l1.length+1))) Z (by
  rw [show ((l1.length:Int)+((1:Nat):Int)).toNat=l1.length+1 by omega,if_neg (by omega)];simp only [aoh,Addr.add];rw [show (l1++l2).length+1 - (l1.length+1)=l2.length by omega]
  split <;> simp_all) ?_
 refine cz 76 (.slice (if c=l1.length then some ⟨gA,oA,none⟩ else (some (⟨gA,oA,none⟩:Addr)).map (·.add (l1.length*3))) (l2.length+1) (c - l1.length)) Z (by
  simp only [am6];rw [show (l1++l2).length+1 - l1.length=l2.length+1 by omega]) ?_
 have hw:(flC rpC l2++zs).length=(l2.length+1)*3:=by rw [am9,hl2,hzs];omega
 refine nt 0 ((l1.length+1)*3) (m:=l2.length+1) (news:=flC rpC l2++zs) (cs':=flC rpC l1++(flC rpC l2++zs).take 3++flC rpC l2) Z Z Z Z Z Z Z Z Z Z (by
  rw [show min (l2.length+1) l2.length=l2.length by omega,ape hl2,hbase];have e1:flC rpC l1++(flC rpC l2++zs)=(flC rpC l1++(flC rpC l2++zs).take 3)++(flC rpC l2++zs).drop 3:=by rw [anh,an9]
  rw [e1,show (l1.length+1)*3=(flC rpC l1++(flC rpC l2++zs).take 3).length by rw [am9,anm,hl1,hw];omega,m9,aog (by rw [aoi,hw,hl2];omega),anv]) Z (by omega) (fun w H=>by
  have:=((H.oat (k:=0) Z).drop (k:=l1.length) (by omega)).sl;rwa [hbase,← hl1,apo rfl,hl1,show (l1++l2).length+1 - l1.length=l2.length+1 by omega] at this) (by rw [am9,hI,hzs];omega) (fun u hu=>by
  rw [show min (l2.length+1) l2.length=l2.length by omega,ape hl2] at hu;exact ho2 u hu) (af 2 [] Z) ?_
 refine aq <| ab <| akw <| am4 Z Z <| az Z <| ae Z ?_;refine bm 80 (.slice (some ⟨gA,oA+l1.length*3,none⟩) (l2.length+1) (c - l1.length)) Z (by
  simp only [am6];rw [if_neg (by omega)];simp only [aoh,Addr.add];rw [show (l1++l2).length+1 - l1.length=l2.length+1 by omega]
  split <;> simp_all) ?_
 refine nr 0 (l1.length*3) (m:=1) (news:=cs) (cs':=flC rpC l1++cs++flC rpC l2) Z Z Z Z Z Z Z Z Z (by
  rw [show min 1 (l2.length+1)=1 by omega,an1 (l:=cs) (by omega),← hl1,anh (flC rpC l1),m9,xl,apo (by rw [anm,hw];omega)]) Z (by omega) (fun w H=>(H.blk (k:=1) Z).sl (by rw [xl]) (by decide)) (by simp only [am9,anm,hl1,hl2,hzs];omega) (fun u hu=>xo u (aon hu)) ?_
 refine aan <| am4 Z Z <| akv <| ai <| ag ?_;rw [← hfin,show (l1++l2).length+1=(l1++x::l2).length by omega];refine ar Z Z (af 2 [0] Z) ?_
 rfl
end
section
variable {b:World} {F:List SP} {l1 l2:List Hd} {x:Hd} {gl c:Nat} {A:Option Addr}
theorem Zq (h1:∀ d∈l1,(hdC d).length=34) (h2:∀ d∈l2,(hdC d).length=34) (xl:(hdC x).length=34) (o2:∀ d∈l2,∀ u∈hdC d,u.oneCell'=true) (xo:∀ u∈hdC x,u.oneCell'=true) (hm:(l1++l2).length≤1000000) :
  SC Tryz.prog qo [.slice A (l1++l2).length c,ii l1.length,.slice (some ⟨gl,0,none⟩) 1 1] b (row t_api_Held 34 (.slice A (l1++l2).length c) (l1++l2).length (flC hdC (l1++l2))::pt gl t_api_Held (hdC x)::F) (fun v F'=>F'=row t_api_Held 34 v (l1++x::l2).length (flC hdC (l1++x::l2))::F):=by
 have hl1:(flC hdC l1).length=l1.length*34:=ju h1;have hl2:(flC hdC l2).length=l2.length*34:=ju h2;have hn:(l1++l2).length=l1.length+l2.length:=am9;have hfin:flC hdC (l1++x::l2)=flC hdC l1++hdC x++flC hdC l2:=by rw [fu,flC,anh]
 have hfl:(l1++x::l2).length=l1.length+l2.length+1:=by rw [am9,anp];omega
 have ho2:∀ u∈flC hdC l2,u.oneCell'=true:=cK o2;have e1:flC hdC (l1 ++ [x])=flC hdC l1++hdC x:=by rw [fu,flC,flC,anv]
 generalize hdC x=cs at *;refine aw Tryz.func224 Z Z Z <| bu (fun w H=>(H.oat (k:=0) Z).form) ?_;rintro ⟨A',c',hv,q1,q2,q3⟩;cases hv;refine akw <| ae Z <| aan <| am4 Z Z <| az Z <| aan <| am5 Z Z Z <| akv <| ad <| akw <| am4 Z Z <| akv <| aj Z <| ak <| ab <| akw <| am5 Z Z Z <| akv <| ad <| akw <| am5 Z Z Z <| akv ?_;by_cases he:l2 = []
 ·subst he;rw [anv] at *;refine dK 22 Z Z <| ao Z <| akw <| am4 Z Z ?_;refine ef 0 Z Z Z Z Z Z Z Z Z (m:=1) (news:=cs) (fun w H=>(H.blk (k:=1) Z).sl (by rw [xl]) (by decide)) xo (by omega) (fun _=>rfl) fun v2=> ?_;refine ae Z <| akv <| ai <| ag ?_;rw [← e1];have e2:l1.length+1=(l1 ++ [x]).length:=by simp
  rw [e2];refine ar Z Z (af 2 [0] Z) ?_
  rfl
 have hl20:0<l2.length:=arh.2 he;refine oe 22 Z <| aj Z <| ak <| ab <| ad <| akw <| am4 Z Z <| az Z <| am5 Z Z Z <| akv ?_;have hpre:(flC hdC (l1++l2)).take (l1.length*34)=flC hdC l1:=by rw [fu,← hl1,ape rfl]
 have hpost:(flC hdC (l1++l2)).drop (l1.length*34)=flC hdC l2:=by rw [fu,← hl1,apo rfl]
 obtain ⟨gA,oA,rfl⟩:=q3 (by omega);by_cases hc:c<(l1++l2).length+1
 ·refine dL 31 Z <| ao Z <| akw <| am4 Z Z <| az Z <| am4 Z Z <| az Z <| ae Z <| az Z ?_;refine bm 34 (.slice (some ⟨gA,oA,none⟩) l1.length c) Z (by simp) ?_;refine bm 39 (ii ((l2.length+1:Nat):Int)) Z (by congr 1;omega) ?_;refine lL (cs:=flC hdC l1) (j:=l1.length) (m:=l2.length+1) (c:=c) Z Z Z Z Z Z Z Z Z (fun w H=>by have:=((H.oat (k:=0) Z).take (k:=l1.length) (by omega)).sl;rwa [hpre] at this) (by omega) (by omega) (by omega) fun gg c2 zs hzs=> ?_;refine b9 (fun w H=>(H.oat (k:=0) Z).form) ?_;rintro ⟨_,_,hv2,p1,p2,_⟩;cases hv2;have hz0:(flC hdC l1++zs).length=(l1.length+l2.length+1)*34:=by rw [am9,hl1,hzs];omega
  refine ae Z <| aan <| am4 Z Z <| az Z <| ae Z ?_;refine bm 43 (.slice (some ⟨gg,l1.length*34,none⟩) (l2.length+1) (c2 - l1.length)) Z (by
   simp only [am6];rw [if_neg (by omega)];simp only [aoh,Addr.add];rw [show l1.length+(l2.length+1) - l1.length=l2.length+1 by omega]
   split <;> simp_all) ?_
  refine nr 0 (l1.length*34) (m:=1) (news:=cs) (cs':=flC hdC l1++cs++zs.drop 34) Z Z Z Z Z Z Z Z Z (by rw [show min 1 (l2.length+1)=1 by omega,an1 (by omega),← hl1,m9,xl]) Z (by omega) (fun w H=>(H.blk (k:=2) Z).sl (by rw [xl]) (by decide)) (by rw [hz0];omega) (fun u hu=>xo u (aon hu)) ?_;refine akv <| ad <| cn flo F (by decide +kernel) (af 3 [] Z) <| ay Z Zl <| ay Z Zl <| ay Z Zl <| cq Z Z <| cq Z Z <| ay Z Zl <| ay Z Zl <| cq Z Z ?_;refine cz 50 (.slice (some ⟨gg,(l1.length+1)*34,none⟩) l2.length (c2 - (l1.length+1))) Z (by
   rw [show ((l1.length:Int)+((1:Nat):Int)).toNat=l1.length+1 by omega,if_neg (by omega)];simp only [aoh,Addr.add];rw [show l1.length+(l2.length+1) - (l1.length+1)=l2.length by omega]
   split <;> simp_all) ?_
  refine cz 53 (.slice (if c=l1.length then some ⟨gA,oA,none⟩ else (some (⟨gA,oA,none⟩:Addr)).map (·.add (l1.length*34))) l2.length (c - l1.length)) Z (by
   simp only [am6];rw [show (l1++l2).length - l1.length=l2.length by omega]) ?_
  refine nt 0 ((l1.length+1)*34) (m:=l2.length) (news:=flC hdC l2) (cs':=flC hdC l1++cs++flC hdC l2) Z Z Z Z Z Z Z Z Z Z (by
   rw [Nat.min_self,an1 (by omega),show (l1.length+1)*34=(flC hdC l1++cs).length by rw [am9,hl1,xl];omega,m9,aog (by rw [aoi,hzs,hl2];omega),anv]) Z (by omega) (fun w H=>by
   have:=((H.oat (k:=1) Z).drop (k:=l1.length) (by omega)).sl;rwa [hpost,show (l1++l2).length - l1.length=l2.length by omega] at this) (by simp only [am9,aoi,hl1,xl,hzs];omega) (fun u hu=>ho2 u (aon hu)) (af 3 [] Z) ?_
  refine aq <| ab <| akw <| am4 Z Z <| akv <| ai <| ag ?_;rw [← hfin,show l1.length+(l2.length+1)=(l1++x::l2).length by omega];refine ar Z Z (af 3 [0] Z) ?_
  rfl
 refine oe 31 Z <| aj Z <| ak <| ab <| akw <| am5 Z Z Z <| az Z <| az Z <| ae Z <| akv <| ad <| akw <| am5 Z Z Z <| ae Z <| az Z <| az Z ?_;refine bm 0 (.slice (some ⟨gA,oA,none⟩) ((l1++l2).length+1) c) Z (by
  rw [show (((l1++l2).length:Int)+((1:Nat):Int)).toNat=(l1++l2).length+1 by omega]) ?_
 refine gU 0 Z (by omega) (fun _=>rfl) fun zs hzs=> ?_;have hN:(l1++l2).length+1=l1.length+(l2.length+1):=by omega
 have hI:(flC hdC (l1++l2)).length=(l1++l2).length*34:=by rw [fu,am9,hl1,hl2];omega
 have hbase:flC hdC (l1++l2)++zs=flC hdC l1++(flC hdC l2++zs):=by rw [fu,anh]
 skip
 refine bm 66 (.slice (some ⟨gA,oA+(l1.length+1)*34,none⟩) l2.length (c - (l1.length+1))) Z (by
  rw [show ((l1.length:Int)+((1:Nat):Int)).toNat=l1.length+1 by omega,if_neg (by omega)];simp only [aoh,Addr.add];rw [show (((l1++l2).length:Int)+((1:Nat):Int)).toNat - (l1.length+1)=l2.length by omega]
  split <;> simp_all) ?_
 refine zH (tS:=ou) (tR:=tb) 1 0 Z Z Z Tryz.func263 (by kernel_rfl) (by kernel_rfl) (by kernel_rfl) (by kernel_rfl) Z Z Z Z Z (by omega) ?_;refine ae Z <| akv <| ao Z <| ad <| cn flo F (by decide +kernel) (af 2 [] Z) <| ay Z Zl <| ay Z Zl <| ay Z Zl <| cq Z Z <| cq Z Z <| ay Z Zl <| ay Z Zl <| cq Z Z ?_;refine cz 73 (.slice (some ⟨gA,oA+(l1.length+1)*34,none⟩) l2.length (c - (l1.length+1))) Z (by
  rw [show ((l1.length:Int)+((1:Nat):Int)).toNat=l1.length+1 by omega,if_neg (by omega)];simp only [aoh,Addr.add];rw [show (l1++l2).length+1 - (l1.length+1)=l2.length by omega]
  split <;> simp_all) ?_
 refine cz 76 (.slice (if c=l1.length then some ⟨gA,oA,none⟩ else (some (⟨gA,oA,none⟩:Addr)).map (·.add (l1.length*34))) (l2.length+1) (c - l1.length)) Z (by
  simp only [am6];rw [show (l1++l2).length+1 - l1.length=l2.length+1 by omega]) ?_
 have hw:(flC hdC l2++zs).length=(l2.length+1)*34:=by rw [am9,hl2,hzs];omega
 refine nt 0 ((l1.length+1)*34) (m:=l2.length+1) (news:=flC hdC l2++zs) (cs':=flC hdC l1++(flC hdC l2++zs).take 34++flC hdC l2) Z Z Z Z Z Z Z Z Z Z (by
  rw [show min (l2.length+1) l2.length=l2.length by omega,ape hl2,hbase];have e1:flC hdC l1++(flC hdC l2++zs)=(flC hdC l1++(flC hdC l2++zs).take 34)++(flC hdC l2++zs).drop 34:=by rw [anh,an9]
  rw [e1,show (l1.length+1)*34=(flC hdC l1++(flC hdC l2++zs).take 34).length by rw [am9,anm,hl1,hw];omega,m9,aog (by rw [aoi,hw,hl2];omega),anv]) Z (by omega) (fun w H=>by
  have:=((H.oat (k:=0) Z).drop (k:=l1.length) (by omega)).sl;rwa [hbase,← hl1,apo rfl,hl1,show (l1++l2).length+1 - l1.length=l2.length+1 by omega] at this) (by rw [am9,hI,hzs];omega) (fun u hu=>by
  rw [show min (l2.length+1) l2.length=l2.length by omega,ape hl2] at hu;exact ho2 u hu) (af 2 [] Z) ?_
 refine aq <| ab <| akw <| am4 Z Z <| az Z <| ae Z ?_;refine bm 80 (.slice (some ⟨gA,oA+l1.length*34,none⟩) (l2.length+1) (c - l1.length)) Z (by
  simp only [am6];rw [if_neg (by omega)];simp only [aoh,Addr.add];rw [show (l1++l2).length+1 - l1.length=l2.length+1 by omega]
  split <;> simp_all) ?_
 refine nr 0 (l1.length*34) (m:=1) (news:=cs) (cs':=flC hdC l1++cs++flC hdC l2) Z Z Z Z Z Z Z Z Z (by
  rw [show min 1 (l2.length+1)=1 by omega,an1 (l:=cs) (by omega),← hl1,anh (flC hdC l1),m9,xl,apo (by rw [anm,hw];omega)]) Z (by omega) (fun w H=>(H.blk (k:=1) Z).sl (by rw [xl]) (by decide)) (by simp only [am9,anm,hl1,hl2,hzs];omega) (fun u hu=>xo u (aon hu)) ?_
 refine aan <| am4 Z Z <| akv <| ai <| ag ?_;rw [← hfin,show (l1++l2).length+1=(l1++x::l2).length by omega];refine ar Z Z (af 2 [0] Z) ?_
 rfl
end

structure Spot where
 repo:ByteArray
 tag:ByteArray
 push:Bool
abbrev spC (s:Spot):List Value:= [.string s.repo,.string s.tag,.bool s.push]
theorem Jw {α:Type} {cm:α→α→Int} {D T S1 S2:List α} {x:α} (hp:(S1++S2++x::T).Perm D) (hT:∀ x∈D,∀ y∈D,∀ z∈D,¬ cm y x<0→¬ cm z y<0→¬ cm z x<0) (hA:∀ x∈D,∀ y∈D,cm x y<0→¬ cm y x<0)
  (hs:(S1++S2).Pairwise fun a c=>¬ cm c a<0) (h1:∀ s S',S1=S' ++ [s]→¬ cm x s<0) (h2:∀ t T',S2=t::T'→cm x t<0):(S1++x::S2).Pairwise fun a c=>¬ cm c a<0:=by
 have hm:∀ y,y∈S1∨y∈S2∨y=x→y∈D:=fun y hy=>hp.mem_iff.1 (by rcases hy with hy | hy | rfl <;> simp_all)
 obtain ⟨a,c,d⟩:=aof.1 hs;refine aof.2 ⟨a,aod.2 ⟨fun t ht=> ?_,c⟩,fun s hs' t ht=> ?_⟩
 ·cases S2 with
  | nil => cases ht
  | cons u S2 =>
   have hu:=hA x (hm x (.inr (.inr Z))) u (hm u (.inr (.inl anl))) (h2 u S2 Z);rcases anj.1 ht with rfl | ht'
   ·exact hu
   ·exact hT x (hm x (.inr (.inr Z))) u (hm u (.inr (.inl anl))) t (hm t (.inr (.inl ht))) hu ((aod.1 c).1 t ht')
 ·rcases anj.1 ht with rfl | ht
  ·rcases ap2 S1 with rfl | ⟨S',u,rfl⟩
   ·cases hs'
   ·rw [ap0] at *;have hu:=h1 u S' Z;rcases anr.1 hs' with hs2 | hs2
    ·exact hT s (hm s (.inl hs')) u (hm u (.inl (by simp))) t (hm t (.inr (.inr Z))) ((aof.1 a).2.2 s hs2 u (by simp)) hu
    ·rw [anc.1 hs2];exact hu
  ·exact d s hs' t ht
theorem Qj {n:Nat} (h:n≤1000):IntKind.u64.wrap (n:Int)=n:=by
 have:IntKind.u64.wrap (n:Int)=(n:Int) % 18446744073709551616:=rfl;rw [this];omega
theorem Uu {P:Program} {ro:Option Nat} {N:Nat} {l rest:List Oper} {Q:Exit→Act→World→Prop} {E:List (Nat × Value)} {ds:List Deferred} {b:World} {F:List SP} {x:Int} {u:Value} (i j:Nat) (hj:Go.Eng.kh E j=some u) (hl:Go.Eng.kh E i=some (ii (IntKind.i64.wrap x))) (h:∀ v,I64 v→SO P ro N l rest Q [(j,u),(i,ii v)] ds b F):SO P ro N l rest Q E ds b F :=
 ⟨fun w H a hk hd=>(h (IntKind.i64.wrap x) (by
  have:IntKind.i64.wrap x=(if x % 18446744073709551616≥9223372036854775808 then x % 18446744073709551616 - 18446744073709551616 else x % 18446744073709551616):=by simp [IntKind.wrap,IntKind.signed,IntKind.bits]
  rw [this];unfold I64
  split <;> omega)).1 w H a (hk.sub ⟨hj,hl,trivial⟩) hd⟩
theorem H8 {b:World} {F:List SP} {n:Nat} (h:n≤12):SC Tryz.prog qA [.int .u64 n] b F (fun _ F'=>F'=F):=by
 have h64:SC Tryz.prog lY [.int .u64 n] b F (fun _ F'=>F'=F):=by
  refine aw Tryz.func280 Z Z Z <| akw <| ae Z <| akv <| ad <| akw <| am4 Z Z <| akv <| oe 4 Z <| aj Z <| ak <| ab <| ad <| akw <| am4 Z Z <| akv <| oe 8 Z <| aj Z <| ak <| ab <| ad <| akw <| am4 Z Z <| akv <| oe 14 Z <| aj Z <| ak <| ab <| akw <| am5 Z Z Z ?_;refine bm 21 (.int .u8 n) Z (am7 (Value.int .u8) (show (n:Int) % 256=n by omega)) ?_;refine Ko Z ⟨by omega,Int.lt_of_lt_of_le (b:=256) (by omega) (by decide +kernel)⟩ ?_;refine ae Z <| Uu 23 19 Z Z fun v hv=> ?_;refine Ko Z (by (simp;omega)) ?_;refine ae Z <| akv <| ai <| ar Z Z ax ?_
  rfl
 refine aw Tryz.func241 Z Z Z <| akw <| ae Z <| akv <| ad <| aj Z <| ak <| ab <| akw <| ae Z <| bf Z Z Z (h64) ?_;rintro u _ ⟨rfl⟩;refine ae Z <| akv <| ai <| ar Z Z ax ?_
 rfl
section
variable {b:World} {F:List SP} {A:Option Addr} {c n:Nat} {cm:Spot→Spot→Int} {f:Nat} [Bodied Tryz.prog f] {D:List Spot}
 (hc:∀ x∈D,∀ y∈D,∀ B:List SP,SC Tryz.prog f [.agg ⟨spC x⟩,.agg ⟨spC y⟩] b (B++F) (fun u F'=>u=ii (cm x y)∧F'=B++F)) (hz:∀ d∈D,(spC d).length=3) (ho:∀ d∈D,∀ u∈spC d,u.oneCell'=true)
 (hT:∀ x∈D,∀ y∈D,∀ z∈D,¬ cm y x<0→¬ cm z y<0→¬ cm z x<0) (hA:∀ x∈D,∀ y∈D,cm x y<0→¬ cm y x<0)
include hc hz ho hT hA
theorem aj1 (hn:D.length=n) (hm:n≤100000):SC Tryz.prog o3 [.slice A n c,ii 0,ii n,.func (.func f) ⟨[]⟩ ⟨[]⟩] b (row dw 3 (.slice A n c) n (flC spC D)::F) (fun _ F'=>∃ M,M.Perm D∧(M.Pairwise fun a c=>¬ cm c a<0)∧F'=row dw 3 (.slice A n c) n (flC spC M)::F):=by
 refine aw Tryz.func271 Z Z Z <| bu (fun w H=>(H.oat (k:=0) Z).form) ?_;rintro ⟨A',c',hv,k1,k2,k3⟩;cases hv;refine akw <| ae Z <| az Z <| ae Z <| akv <| am ?_;cases hD:D with
 | nil =>
  subst hD;obtain rfl:n=0:=hn.symm;refine dt (S:=Unit) (fun _=> [(0,.slice A 0 c),(1,ii 0),(2,ii 0),(3,.func (.func f) ⟨[]⟩ ⟨[]⟩),(8,ii 1)]) (fun _=>row dw 3 (.slice A 0 c) 0 (flC spC [])::F) (fun _=>True) (fun _=>0) () ax trivial ?_;intro _ _;refine ad <| akw <| am5 Z Z Z <| akv <| aj Z <| bz <| au <| av <| ap <| jb Z .nil ax ?_;exact ⟨[],aq0 _,List.Pairwise.nil,rfl⟩
 | cons x0 L0 =>
 rw [← hD];have hn0:L0.length+1=n:=by rw [← hn,hD,anp]
 refine dt (S:=Nat × List Spot × List Spot) (fun s=> [(0,.slice A n c),(1,ii 0),(2,ii n),(3,.func (.func f) ⟨[]⟩ ⟨[]⟩),(8,ii s.1)]) (fun s=>row dw 3 (.slice A n c) n (flC spC (s.2.1++s.2.2))::F)
  (fun s=>(s.2.1++s.2.2).Perm D∧(s.2.1.Pairwise fun a c=>¬ cm c a<0)∧s.2.1.length=s.1) (fun s=>s.2.2.length) (1,[x0],L0) (by rw [hD];exact Ent.refl _)
  ⟨by rw [hD];exact aq0 _,ao7 _ _,rfl⟩ ?_
 rintro ⟨i,M,T⟩ ⟨hp,hs,hi⟩;dsimp only at hp hs hi ⊢;have hlen:=hp.length_eq;rw [am9,hn] at hlen;refine ad <| akw <| am5 Z Z Z <| akv ?_;refine de Z (fun h1=> ?_) (fun h1=> ?_)
 ·cases T with
  | nil => rw [ao1] at hlen; omega
  | cons x T =>
  rw [anp] at hlen;refine ak <| ab <| ad <| am <| akw <| am4 Z Z <| akv <| am ?_;refine dt (S:=Nat × List Spot × List Spot) (fun s=> [(0,.slice A n c),(1,ii 0),(2,ii n),(3,.func (.func f) ⟨[]⟩ ⟨[]⟩),(8,ii i),(9,ii s.1)]) (fun s=>row dw 3 (.slice A n c) n (flC spC (s.2.1++(x::(s.2.2++T))))::F)
   (fun s=>M=s.2.1++s.2.2∧s.2.1.length=s.1∧∀ t T'',s.2.2=t::T''→cm x t<0) (fun s=>s.2.1.length) (i,M,[]) ax ⟨by simp,hi,fun t T'' h=>by cases h⟩ ?_
  rintro ⟨j,S1,S2⟩ ⟨rfl,hj,hlt⟩;dsimp only at hj hlt ⊢;have hpD:(S1++(x::(S2++T))).Perm D:=((an2.trans (List.Perm.of_eq (by simp))).trans an2.symm).trans hp;have hall:∀ d∈S1++(x::(S2++T)),d∈D:=fun d hd=>hpD.mem_iff.1 hd
  have hzX:∀ d∈S1++(x::(S2++T)),(spC d).length=3:=fun d hd=>hz d (hall d hd)
  have hxm:x∈D:=hall x (by simp);have hlenD:=hpD.length_eq;rw [hn] at hlenD;have hjn:j<(S1++(x::(S2++T))).length:=by simp;omega
  have hax:(S1++(x::(S2++T)))[j]'hjn=x:=by simp [← hj]
  obtain ⟨gg,oo,rfl⟩:=k3 (by omega);have fx:=pa hzX hjn;rw [hax] at fx;have xl:=hz x hxm;have hst:=Jw (S1:=S1) (S2:=S2) hp hT hA hs;rcases ap2 S1 with rfl | ⟨S1',s,rfl⟩
  ·have hja:j=0:=by simpa using hj.symm
   subst hja;refine yj ax <| ad <| ad <| cn flo _ (by decide +kernel) ax ?_
   (iterate 14 refine ay Z Zl ?_)
   refine ay Z (.inr Z) <| ay Z Zl <| ay Z Zl <| vr 21 Z (by omega) ?_
   skip
   refine aq <| ab <| aj Z <| bz <| au <| av <| ap <| bh <| ab <| aa <| ae Z <| az Z <| ae Z <| ac ?_;rw [show (i:Int)+1=((i+1:Nat):Int) by omega];refine ly (i+1,[]++x::S2,T) (by rw [show []++(x::(S2++T)) = []++x::S2++T by simp];exact Ent.refl _) ⟨by dsimp only;rw [show []++x::S2++T = []++(x::(S2++T)) by simp];exact hpD,hst (fun s S' e=>by simp at e) hlt,by dsimp only;simp at hi ⊢;omega⟩ (by dsimp only;simp)
  ·rw [ap0] at *;have hj2:S1'.length+1=j:=by simp at hj;omega
   have e3:S1' ++ [s]++(x::(S2++T))=S1'++s::x::(S2++T):=by simp
   have hsm:s∈D:=hall s (by simp);have sl:=hz s hsm;have hjs:j - 1<(S1' ++ [s]++(x::(S2++T))).length:=by omega
   have has:(S1' ++ [s]++(x::(S2++T)))[j - 1]'hjs=s:=by
    simp only [e3];rw [List.getElem_append_right (by omega)];simp [show j - 1 - S1'.length=0 by omega]
   have fs:=pa hzX hjs;rw [has] at fs;have hsw:((S1' ++ [s]++(x::(S2++T))).set j s).set (j - 1) x=S1'++(x::(s::S2++T)):=by
    have:=Hb S1' s x (S2++T);rw [hj2,show S1'.length=j - 1 by omega,← e3] at this;rw [this];simp
   have w1:=vf (f:=spC) (x:=s) hzX sl hjn;have hz2:∀ d∈(S1' ++ [s]++(x::(S2++T))).set j s,(spC d).length=3:=fun d hd=>by
    rcases apd hd with h | rfl
    ·exact hzX d h
    ·exact sl
   have w2:=vf (f:=spC) (x:=x) hz2 xl (i:=j - 1) (by rw [app];omega);have l1:=ju hzX;have l2:=ju hz2;rw [app] at l2;rw [hsw] at w2;rw [hlenD] at l1 l2;have x1:=ho x hxm;have x2:=ho s hsm;have hN:((j:Int) - 1).toNat=j - 1:=by omega
   have hb1:j*3+3≤n*3∧(j - 1)*3+3≤n*3:=by omega
   have hcy:=hc x hxm s hsm;generalize hX:S1' ++ [s]++(x::(S2++T))=X at *;generalize spC x=xs at *;generalize spC s=ss at *;refine yj ax <| ad <| ad <| cn flo (row dw 3 (.slice (some ⟨gg,oo,none⟩) n c) n (flC spC X)::F) (by decide +kernel) ax <| ay Z Zl <| ay Z Zl <| ay Z Zl <| ay Z Zl <| yn 21 Z (by omega) <| ay Z Zl <| ay Z Zl <| ay Z Zl <| cq Z Z ?_;refine j5 0 (j*3) Z Z Z Z Z Z Z Z (by rw [bq,am6]) (by omega) fx (by rw [xl];rfl) ?_;refine ay Z Zl <| ay Z Zl <| cq Z Z <| cq Z Z ?_;refine j5 0 ((j - 1)*3) Z Z Z Z Z Z Z Z (by rw [bq,hN]) (by omega) fs (by rw [sl];rfl) ?_;refine dh Z Z Z Z (hcy [_]) ax <| ay Z Zl <| ay Z Zl ?_;by_cases hcm:cm x s<0;rotate_left
   ·refine vr 34 Z hcm ?_
    skip
    refine aq <| ab <| aj Z <| bz <| au <| av <| ap <| bh <| ab <| aa <| ae Z <| az Z <| ae Z <| ac ?_;rw [show (i:Int)+1=((i+1:Nat):Int) by omega];refine ly (i+1,(S1' ++ [s])++x::S2,T) (by rw [← hX,show S1' ++ [s]++(x::(S2++T))=S1' ++ [s]++x::S2++T by simp];exact Ent.refl _) ⟨by dsimp only;rw [show S1' ++ [s]++x::S2++T=S1' ++ [s]++(x::(S2++T)) by simp,hX];exact hpD,hst (fun s' S'' e=>by
     obtain ⟨_,e⟩:=List.append_inj' e Z;cases e;exact hcm) hlt,by dsimp only;simp at hi ⊢;omega⟩ (by dsimp only;simp)
   ·refine yn 34 Z hcm ?_
    skip
    refine aq <| ab <| ao Z <| ak <| ab <| ad <| am ?_;refine w9 flo 18 _ (by kernel_rfl) Z ax ?_;refine pg (15,[0,1,5,6,7,8,9,10,11,12,13,14]) [] (by kernel_rfl) ⟨jm 0 2 (L2:=List.range' 5 10) Z Z ?_,trivial⟩;refine ay Z Zl <| ay Z Zl <| aq (s0 ax (jm 5 10 (L2:= []) Z Z (ay Z Zl <| ay Z Zl <| cq Z Z <| cq Z Z ?_)));refine j5 0 ((j - 1)*3) Z Z Z Z Z Z Z Z (by rw [bq,hN]) (by omega) fs (by rw [sl];rfl) ?_;refine ay Z Zl <| ay Z Zl <| cq Z Z ?_;refine j5 0 (j*3) Z Z Z Z Z Z Z Z (by rw [bq,am6]) (by omega) fx (by rw [xl];rfl) ?_;refine cq Z Z <| aq <| s0 ax <| jf [] Z (dc _) ?_;refine me 0 (j*3) Z Z Z Z Z Z Z Z Z w1 (by rw [sl];rfl) (by rw [bq,am6]) (by rw [sl];omega) x2 (dc _) ?_;refine aq (io (dc _) (pg (17,[2,3,4,16]) [] (by kernel_rfl) ⟨jm 2 3 (L2:= [16]) Z Z ?_,trivial⟩));refine ay Z Zl <| ay Z Zl <| cq Z Z <| aq <| s0 (dc _) <| xa 16 1 Z Z Z <| cq Z Z ?_;refine me 0 ((j - 1)*3) Z Z Z Z Z Z Z Z Z w2 (by rw [xl];rfl) (by rw [bq,hN]) (by rw [xl];omega) x1 (dc _) ?_;refine aq (io (dc _) (yq 0 0 (by kernel_rfl) (by kernel_rfl) Z (aq ?_)));refine bh <| ab <| aa <| ae Z <| az Z <| ae Z <| ac ?_;rw [show (j:Int) - 1=((j - 1:Nat):Int) by omega];refine ly (j - 1,S1',s::S2) ax ⟨by simp,by dsimp only;omega,fun t T'' e=>by cases e;exact hcm⟩ (by dsimp only;simp)
 ·refine bz <| au <| av <| ap ?_;have hT0:T = []:=by
   have:T.length=0:=by omega
   exact an3 this
  subst hT0;rw [anv] at hp ⊢;refine jb Z .nil ax ?_;exact ⟨M,hp,hs,rfl⟩
theorem aj2 (hn:D.length=n) (hm:n≤12):SC Tryz.prog n6 [.slice A n c,.func (.func f) ⟨[]⟩ ⟨[]⟩] b (row dw 3 (.slice A n c) n (flC spC D)::F) (fun _ F'=>∃ M,M.Perm D∧(M.Pairwise fun a c=>¬ cm c a<0)∧F'=row dw 3 (.slice A n c) n (flC spC M)::F):=by
 have hpd:∀ {u:Value},SC Tryz.prog r6 [.slice A n c,ii 0,ii n,u,.func (.func f) ⟨[]⟩ ⟨[]⟩] b (row dw 3 (.slice A n c) n (flC spC D)::F) (fun _ F'=>∃ M,M.Perm D∧(M.Pairwise fun a c=>¬ cm c a<0)∧F'=row dw 3 (.slice A n c) n (flC spC M)::F):=by
  intro u;refine aw Tryz.func240 Z Z Z <| akw <| ae Z <| aan <| ae Z <| akv <| am <| dt (S:=Unit) (fun _=> [(0,.slice A n c),(1,ii 0),(2,ii n),(4,.func (.func f) ⟨[]⟩ ⟨[]⟩)]) (fun _=>row dw 3 (.slice A n c) n (flC spC D)::F) (fun _=>True) (fun _=>0) () ax trivial ?_;intro _ _;refine am <| akw <| am4 Z Z <| az Z <| ae Z <| akv <| ad <| akw <| am4 Z Z <| akv <| dL 25 Z <| ao Z <| akw <| am5 Z Z Z <| ae Z <| bf Z Z Z (aj1 hc hz ho hT hA hn (by omega)) ?_;rintro _ _ ⟨M,g1,g2,rfl⟩;refine akv <| ai <| ag <| al <| cd <| al <| fw Z .nil ax ?_;exact ⟨M,g1,g2,rfl⟩
 refine aw Tryz.func159 Z Z Z <| akw <| am5 Z Z Z <| akv <| aa <| am5 Z Z Z <| ae Z <| bm 10 (.int .u64 n) Z (am7 (Value.int .u64) (Qj (by omega))) <| bf Z Z Z (H8 (by omega)) ?_;rintro u _ ⟨rfl⟩;refine ae Z <| bf Z Z Z (hpd) ?_;rintro _ _ ⟨M,g1,g2,rfl⟩;refine ac <| jb Z .nil ax ?_;exact ⟨M,g1,g2,rfl⟩
end
section
variable {b:World} {F:List SP} {A:Option Addr} {c n:Nat} {cm:Ev→Ev→Int} {f:Nat} [Bodied Tryz.prog f] {D:List Ev}
 (hc:∀ x∈D,∀ y∈D,∀ B:List SP,SC Tryz.prog f [.agg ⟨evC x⟩,.agg ⟨evC y⟩] b (B++F) (fun u F'=>u=ii (cm x y)∧F'=B++F)) (hz:∀ d∈D,(evC d).length=39) (ho:∀ d∈D,∀ u∈evC d,u.oneCell'=true)
 (hT:∀ x∈D,∀ y∈D,∀ z∈D,¬ cm y x<0→¬ cm z y<0→¬ cm z x<0) (hA:∀ x∈D,∀ y∈D,cm x y<0→¬ cm y x<0)
include hc hz ho hT hA
theorem aj3 (hn:D.length=n) (hm:n≤100000):SC Tryz.prog pk [.slice A n c,ii 0,ii n,.func (.func f) ⟨[]⟩ ⟨[]⟩] b (row ba 39 (.slice A n c) n (flC evC D)::F) (fun _ F'=>∃ M,M.Perm D∧(M.Pairwise fun a c=>¬ cm c a<0)∧F'=row ba 39 (.slice A n c) n (flC evC M)::F):=by
 refine aw Tryz.func300 Z Z Z <| bu (fun w H=>(H.oat (k:=0) Z).form) ?_;rintro ⟨A',c',hv,k1,k2,k3⟩;cases hv;refine akw <| ae Z <| az Z <| ae Z <| akv <| am ?_;cases hD:D with
 | nil =>
  subst hD;obtain rfl:n=0:=hn.symm;refine dt (S:=Unit) (fun _=> [(0,.slice A 0 c),(1,ii 0),(2,ii 0),(3,.func (.func f) ⟨[]⟩ ⟨[]⟩),(8,ii 1)]) (fun _=>row ba 39 (.slice A 0 c) 0 (flC evC [])::F) (fun _=>True) (fun _=>0) () ax trivial ?_;intro _ _;refine ad <| akw <| am5 Z Z Z <| akv <| aj Z <| bz <| au <| av <| ap <| jb Z .nil ax ?_;exact ⟨[],aq0 _,List.Pairwise.nil,rfl⟩
 | cons x0 L0 =>
 rw [← hD];have hn0:L0.length+1=n:=by rw [← hn,hD,anp]
 refine dt (S:=Nat × List Ev × List Ev) (fun s=> [(0,.slice A n c),(1,ii 0),(2,ii n),(3,.func (.func f) ⟨[]⟩ ⟨[]⟩),(8,ii s.1)]) (fun s=>row ba 39 (.slice A n c) n (flC evC (s.2.1++s.2.2))::F)
  (fun s=>(s.2.1++s.2.2).Perm D∧(s.2.1.Pairwise fun a c=>¬ cm c a<0)∧s.2.1.length=s.1) (fun s=>s.2.2.length) (1,[x0],L0) (by rw [hD];exact Ent.refl _)
  ⟨by rw [hD];exact aq0 _,ao7 _ _,rfl⟩ ?_
 rintro ⟨i,M,T⟩ ⟨hp,hs,hi⟩;dsimp only at hp hs hi ⊢;have hlen:=hp.length_eq;rw [am9,hn] at hlen;refine ad <| akw <| am5 Z Z Z <| akv ?_;refine de Z (fun h1=> ?_) (fun h1=> ?_)
 ·cases T with
  | nil => rw [ao1] at hlen; omega
  | cons x T =>
  rw [anp] at hlen;refine ak <| ab <| ad <| am <| akw <| am4 Z Z <| akv <| am ?_;refine dt (S:=Nat × List Ev × List Ev) (fun s=> [(0,.slice A n c),(1,ii 0),(2,ii n),(3,.func (.func f) ⟨[]⟩ ⟨[]⟩),(8,ii i),(9,ii s.1)]) (fun s=>row ba 39 (.slice A n c) n (flC evC (s.2.1++(x::(s.2.2++T))))::F)
   (fun s=>M=s.2.1++s.2.2∧s.2.1.length=s.1∧∀ t T'',s.2.2=t::T''→cm x t<0) (fun s=>s.2.1.length) (i,M,[]) ax ⟨by simp,hi,fun t T'' h=>by cases h⟩ ?_
  rintro ⟨j,S1,S2⟩ ⟨rfl,hj,hlt⟩;dsimp only at hj hlt ⊢;have hpD:(S1++(x::(S2++T))).Perm D:=((an2.trans (List.Perm.of_eq (by simp))).trans an2.symm).trans hp;have hall:∀ d∈S1++(x::(S2++T)),d∈D:=fun d hd=>hpD.mem_iff.1 hd
  have hzX:∀ d∈S1++(x::(S2++T)),(evC d).length=39:=fun d hd=>hz d (hall d hd)
  have hxm:x∈D:=hall x (by simp);have hlenD:=hpD.length_eq;rw [hn] at hlenD;have hjn:j<(S1++(x::(S2++T))).length:=by simp;omega
  have hax:(S1++(x::(S2++T)))[j]'hjn=x:=by simp [← hj]
  obtain ⟨gg,oo,rfl⟩:=k3 (by omega);have fx:=pa hzX hjn;rw [hax] at fx;have xl:=hz x hxm;have hst:=Jw (S1:=S1) (S2:=S2) hp hT hA hs;rcases ap2 S1 with rfl | ⟨S1',s,rfl⟩
  ·have hja:j=0:=by simpa using hj.symm
   subst hja;refine yj ax <| ad <| ad <| cn flo _ (by decide +kernel) ax ?_
   (iterate 14 refine ay Z Zl ?_)
   refine ay Z (.inr Z) <| ay Z Zl <| ay Z Zl <| vr 21 Z (by omega) ?_
   skip
   refine aq <| ab <| aj Z <| bz <| au <| av <| ap <| bh <| ab <| aa <| ae Z <| az Z <| ae Z <| ac ?_;rw [show (i:Int)+1=((i+1:Nat):Int) by omega];refine ly (i+1,[]++x::S2,T) (by rw [show []++(x::(S2++T)) = []++x::S2++T by simp];exact Ent.refl _) ⟨by dsimp only;rw [show []++x::S2++T = []++(x::(S2++T)) by simp];exact hpD,hst (fun s S' e=>by simp at e) hlt,by dsimp only;simp at hi ⊢;omega⟩ (by dsimp only;simp)
  ·rw [ap0] at *;have hj2:S1'.length+1=j:=by simp at hj;omega
   have e3:S1' ++ [s]++(x::(S2++T))=S1'++s::x::(S2++T):=by simp
   have hsm:s∈D:=hall s (by simp);have sl:=hz s hsm;have hjs:j - 1<(S1' ++ [s]++(x::(S2++T))).length:=by omega
   have has:(S1' ++ [s]++(x::(S2++T)))[j - 1]'hjs=s:=by
    simp only [e3];rw [List.getElem_append_right (by omega)];simp [show j - 1 - S1'.length=0 by omega]
   have fs:=pa hzX hjs;rw [has] at fs;have hsw:((S1' ++ [s]++(x::(S2++T))).set j s).set (j - 1) x=S1'++(x::(s::S2++T)):=by
    have:=Hb S1' s x (S2++T);rw [hj2,show S1'.length=j - 1 by omega,← e3] at this;rw [this];simp
   have w1:=vf (f:=evC) (x:=s) hzX sl hjn;have hz2:∀ d∈(S1' ++ [s]++(x::(S2++T))).set j s,(evC d).length=39:=fun d hd=>by
    rcases apd hd with h | rfl
    ·exact hzX d h
    ·exact sl
   have w2:=vf (f:=evC) (x:=x) hz2 xl (i:=j - 1) (by rw [app];omega);have l1:=ju hzX;have l2:=ju hz2;rw [app] at l2;rw [hsw] at w2;rw [hlenD] at l1 l2;have x1:=ho x hxm;have x2:=ho s hsm;have hN:((j:Int) - 1).toNat=j - 1:=by omega
   have hb1:j*39+39≤n*39∧(j - 1)*39+39≤n*39:=by omega
   have hcy:=hc x hxm s hsm;generalize hX:S1' ++ [s]++(x::(S2++T))=X at *;generalize evC x=xs at *;generalize evC s=ss at *;refine yj ax <| ad <| ad <| cn flo (row ba 39 (.slice (some ⟨gg,oo,none⟩) n c) n (flC evC X)::F) (by decide +kernel) ax <| ay Z Zl <| ay Z Zl <| ay Z Zl <| ay Z Zl <| yn 21 Z (by omega) <| ay Z Zl <| ay Z Zl <| ay Z Zl <| cq Z Z ?_;refine j5 0 (j*39) Z Z Z Z Z Z Z Z (by rw [bq,am6]) (by omega) fx (by rw [xl];rfl) ?_;refine ay Z Zl <| ay Z Zl <| cq Z Z <| cq Z Z ?_;refine j5 0 ((j - 1)*39) Z Z Z Z Z Z Z Z (by rw [bq,hN]) (by omega) fs (by rw [sl];rfl) ?_;refine dh Z Z Z Z (hcy [_]) ax <| ay Z Zl <| ay Z Zl ?_;by_cases hcm:cm x s<0;rotate_left
   ·refine vr 34 Z hcm ?_
    skip
    refine aq <| ab <| aj Z <| bz <| au <| av <| ap <| bh <| ab <| aa <| ae Z <| az Z <| ae Z <| ac ?_;rw [show (i:Int)+1=((i+1:Nat):Int) by omega];refine ly (i+1,(S1' ++ [s])++x::S2,T) (by rw [← hX,show S1' ++ [s]++(x::(S2++T))=S1' ++ [s]++x::S2++T by simp];exact Ent.refl _) ⟨by dsimp only;rw [show S1' ++ [s]++x::S2++T=S1' ++ [s]++(x::(S2++T)) by simp,hX];exact hpD,hst (fun s' S'' e=>by
     obtain ⟨_,e⟩:=List.append_inj' e Z;cases e;exact hcm) hlt,by dsimp only;simp at hi ⊢;omega⟩ (by dsimp only;simp)
   ·refine yn 34 Z hcm ?_
    skip
    refine aq <| ab <| ao Z <| ak <| ab <| ad <| am ?_;refine w9 flo 18 _ (by kernel_rfl) Z ax ?_;refine pg (15,[0,1,5,6,7,8,9,10,11,12,13,14]) [] (by kernel_rfl) ⟨jm 0 2 (L2:=List.range' 5 10) Z Z ?_,trivial⟩;refine ay Z Zl <| ay Z Zl <| aq (s0 ax (jm 5 10 (L2:= []) Z Z (ay Z Zl <| ay Z Zl <| cq Z Z <| cq Z Z ?_)));refine j5 0 ((j - 1)*39) Z Z Z Z Z Z Z Z (by rw [bq,hN]) (by omega) fs (by rw [sl];rfl) ?_;refine ay Z Zl <| ay Z Zl <| cq Z Z ?_;refine j5 0 (j*39) Z Z Z Z Z Z Z Z (by rw [bq,am6]) (by omega) fx (by rw [xl];rfl) ?_;refine cq Z Z <| aq <| s0 ax <| jf [] Z (dc _) ?_;refine me 0 (j*39) Z Z Z Z Z Z Z Z Z w1 (by rw [sl];rfl) (by rw [bq,am6]) (by rw [sl];omega) x2 (dc _) ?_;refine aq (io (dc _) (pg (17,[2,3,4,16]) [] (by kernel_rfl) ⟨jm 2 3 (L2:= [16]) Z Z ?_,trivial⟩));refine ay Z Zl <| ay Z Zl <| cq Z Z <| aq <| s0 (dc _) <| xa 16 1 Z Z Z <| cq Z Z ?_;refine me 0 ((j - 1)*39) Z Z Z Z Z Z Z Z Z w2 (by rw [xl];rfl) (by rw [bq,hN]) (by rw [xl];omega) x1 (dc _) ?_;refine aq (io (dc _) (yq 0 0 (by kernel_rfl) (by kernel_rfl) Z (aq ?_)));refine bh <| ab <| aa <| ae Z <| az Z <| ae Z <| ac ?_;rw [show (j:Int) - 1=((j - 1:Nat):Int) by omega];refine ly (j - 1,S1',s::S2) ax ⟨by simp,by dsimp only;omega,fun t T'' e=>by cases e;exact hcm⟩ (by dsimp only;simp)
 ·refine bz <| au <| av <| ap ?_;have hT0:T = []:=by
   have:T.length=0:=by omega
   exact an3 this
  subst hT0;rw [anv] at hp ⊢;refine jb Z .nil ax ?_;exact ⟨M,hp,hs,rfl⟩
theorem aj4 (hn:D.length=n) (hm:n≤12):SC Tryz.prog oz [.slice A n c,.func (.func f) ⟨[]⟩ ⟨[]⟩] b (row ba 39 (.slice A n c) n (flC evC D)::F) (fun _ F'=>∃ M,M.Perm D∧(M.Pairwise fun a c=>¬ cm c a<0)∧F'=row ba 39 (.slice A n c) n (flC evC M)::F):=by
 have hpd:∀ {u:Value},SC Tryz.prog sg [.slice A n c,ii 0,ii n,u,.func (.func f) ⟨[]⟩ ⟨[]⟩] b (row ba 39 (.slice A n c) n (flC evC D)::F) (fun _ F'=>∃ M,M.Perm D∧(M.Pairwise fun a c=>¬ cm c a<0)∧F'=row ba 39 (.slice A n c) n (flC evC M)::F):=by
  intro u;refine aw Tryz.func270 Z Z Z <| akw <| ae Z <| aan <| ae Z <| akv <| am <| dt (S:=Unit) (fun _=> [(0,.slice A n c),(1,ii 0),(2,ii n),(4,.func (.func f) ⟨[]⟩ ⟨[]⟩)]) (fun _=>row ba 39 (.slice A n c) n (flC evC D)::F) (fun _=>True) (fun _=>0) () ax trivial ?_;intro _ _;refine am <| akw <| am4 Z Z <| az Z <| ae Z <| akv <| ad <| akw <| am4 Z Z <| akv <| dL 25 Z <| ao Z <| akw <| am5 Z Z Z <| ae Z <| bf Z Z Z (aj3 hc hz ho hT hA hn (by omega)) ?_;rintro _ _ ⟨M,g1,g2,rfl⟩;refine akv <| ai <| ag <| al <| cd <| al <| fw Z .nil ax ?_;exact ⟨M,g1,g2,rfl⟩
 refine aw Tryz.func236 Z Z Z <| akw <| am5 Z Z Z <| akv <| aa <| am5 Z Z Z <| ae Z <| bm 10 (.int .u64 n) Z (am7 (Value.int .u64) (Qj (by omega))) <| bf Z Z Z (H8 (by omega)) ?_;rintro u _ ⟨rfl⟩;refine ae Z <| bf Z Z Z (hpd) ?_;rintro _ _ ⟨M,g1,g2,rfl⟩;refine ac <| jb Z .nil ax ?_;exact ⟨M,g1,g2,rfl⟩
end
end Go.Proofs.YtbpdffopjkhelaaGreat
