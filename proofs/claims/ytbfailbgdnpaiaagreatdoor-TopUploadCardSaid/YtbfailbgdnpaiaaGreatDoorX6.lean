/- Blobs, part ten: the heap: up. Conditions: not too many. -/
import Derived.Test.YtbfailbgdnpaiaaGreatDoorX5
import Derived.LaidEqlPtr
import Derived.Test.YtbfailbgdnpaiaaGreatDoorX3
import Derived.Test.YtbfailbgdnpaiaaGreatDoorX4
import Derived.Test.YtbfailbgdnpaiaaGreatDoorX2
import Derived.Test.YtbfailbgdnpaiaaGreatDoorX1
set_option maxRecDepth 20000
set_option maxHeartbeats 8000000
namespace Go.Proofs.YtbfailbgdnpaiaaGreatDoor
open Go.Eng Go.RowKit Go.WideMaps

def upM:Nat→List (List Int)→Nat→List (List Int)
 | 0, l, _ => l
 | k + 1, l, j => if j = 0 then l else if lD (l.getD j []) (l.getD ((j - 1) / 2) []) < 0 then upM k (oq l ((j - 1) / 2) j) ((j - 1) / 2) else l
theorem fy (l:List (List Int)) (i j:Nat):(oq l i j).length=l.length:=by simp [oq]
theorem ye {l:List (List Int)} (h:nj l) {i j:Nat} (hi:i<l.length) (hj:j<l.length):nj (oq l i j):=gI (gI h (aW h hj) i) (aW h hi) j
theorem Oa (k:Nat):∀ l p,p<k→upM k l p=upM (p+1) l p:=by
 induction k using Nat.strongRecOn with
 | ind k ih =>
  intro l p hp;cases k with
  | zero => omega
  | succ k =>
   simp only [upM]
   split
   ·rfl
   ·split
    ·exact (ih k (by omega) _ _ (by omega)).trans (ih p (by omega) _ _ (by omega)).symm
    ·rfl
theorem alm (j:Nat):Int.tdiv ((j:Int) - 1) 2=(((j - 1) / 2:Nat):Int):=by
 cases j with
 | zero => rfl
 | succ j =>
  have:(((j+1:Nat):Int) - 1)=(j:Int):=by omega
  rw [this,Nat.add_sub_cancel]
  rfl
theorem Fy {j:Nat} (h:j≤1000000):IntKind.i64.wrap (Int.tdiv ((j:Int) - 1) 2)=(((j - 1) / 2:Nat):Int):=by
 rw [alm];exact I64.wrap (by unfold I64;omega)
section
variable {b:World} {F:List SP} {A:Option Addr} {c n gh:Nat} {l:List (List Int)}
theorem ao8 {j:Nat} (hl:nj l) (hn:l.length=n) (hj:j<n) (hm:n≤1000000) :
  SC Tryz.prog iI [.iface il (pp gh),ii j] b (pt gh cz [.slice A n c]::rN A c n l::F)
   (fun _ F'=>F'=pt gh cz [.slice A n c]::rN A c n (upM (j+1) l j)::F):=by
 refine ao Tryz.func201 Z Z Z <| ak ?_;refine d6 (S:=List (List Int) × Nat) (fun s=> [(0,.iface il (pp gh)),(1,ii s.2)]) (fun s=>pt gh cz [.slice A n c]::rN A c n s.1::F)
  (fun s=>nj s.1∧s.1.length=n∧s.2<n∧upM (s.2+1) s.1 s.2=upM (j+1) l j) (fun s=>s.2) (l,j) av ⟨hl,hn,hj,rfl⟩ ?_
 rintro ⟨m,i⟩ ⟨i1,i2,i3,i4⟩;dsimp only at i1 i2 i3 i4 ⊢;refine ak <| anf <| ae Z <| ay Z <| ay Z <| ae Z <| ane <| ac <| anf <| apo Z Z Z <| ae Z <| bn 4 (ii (((i - 1) / 2:Nat):Int)) Z (ap2 (Value.int .i64) (Fy (by omega))) ?_;by_cases h0:i=0
 ·refine bn 11 (.bool true) Z (by rw [Fy (by omega)];simp [h0]) ?_
  (iterate 6 refine ae Z ?_)
  refine ane <| ar Z <| b8 <| aw <| mw Z <| ax <| aq ?_;subst h0;have e:m=upM (j+1) l j:=by rw [← i4];simp [upM]
  refine io Z .nil (af 0 [] Z) ?_;rw [e]
 ·refine bn 11 (.bool false) Z (by rw [Fy (by omega)];simp;omega) ?_;refine apo Z Z Z ?_;have hp:(i - 1) / 2<m.length:=by omega
  subst i2;have hless:=lE (b:=b) (F:=pt gh cz [.slice A m.length c]::F) (A:=A) (c:=c) (l:=m) (i:=i) (j:=(i - 1) / 2) i1 (by omega) hp;refine xx 0 Z Z Z Z Z Z Z Z (hless.at (af 2 [1,0] Z) (af 2 [1,0] Z)) ?_;by_cases h1:lD (m.getD i []) (m.getD ((i - 1) / 2) [])<0
  ·refine wt 15 Z h1 <| apn Z Z <| ane <| ai Z <| ah <| ab <| anf <| apo Z Z Z ?_;have hswap:=lF (b:=b) (F:=pt gh cz [.slice A m.length c]::F) (A:=A) (c:=c) (n:=m.length) (l:=m) (i:=(i - 1) / 2) (j:=i) i1 Z hp i3;refine gF 0 Z Z Z Z Z Z Z Z (hswap.ent (af 2 [1,0] Z)) ?_;rintro _ _ rfl;refine ane <| aa <| apn Z Z <| ad <| bg <| dj (oq m ((i - 1) / 2) i,(i - 1) / 2) (af 2 [1,0] Z) ⟨ye i1 hp i3,fy _ _ _,hp,?_⟩;rw [← i4];simp only [upM,if_neg h0,if_pos h1];exact (Oa i _ _ (by omega)).symm
  ·refine iQ 15 Z h1 <| apn Z Z <| ane <| ar Z <| b8 <| aw <| mw Z <| ax <| aq ?_;have e:m=upM (j+1) l j:=by rw [← i4];simp only [upM,if_neg h0,if_neg h1]
   refine io Z .nil (af 0 [] Z) ?_;rw [← e]
end
open Go.Heap

section
variable {b:World} {F:List SP} {A:Option Addr} {c n gh t0 off:Nat} {l H:List Wn} {cs:Value→List Value}
end

section
variable {b:World} {F:List SP} {A:Option Addr} {c n gh t0 off:Nat} {l H:List Wn} {cs:Value→List Value}
end

section
variable {b:World} {F:List SP} {A:Option Addr} {c n gh t0 off:Nat} {l H:List Wn} {cs:Value→List Value} {x:Wn}
end


section
variable {b:World} {F:List SP} {R H:List Wn} {h:Value}
end

section
variable {b:World} {F:List SP} {gq gm:Nat} {v h:Value} {V:List Int} {R H:List Wn} {e:Wn}
end

section
variable {b:World} {F:List SP} {gq gm:Nat} {v h:Value} {V:List Int} {R H:List Wn}
end

def Xl (n:Nat) (e:Ev) (src:Int):Bool:=decide (1≤src∧src≤n∧1≤e.r∧e.r≤n∧1≤e.n∧e.n≤1048576∧e.deps.length=n∧tA e.deps∧e.deps.getD (e.r - 1).toNat 0=e.n - 1)
section
variable {b:World} {F:List SP} {gq gm:Nat} {v h:Value} {V:List Int} {R H:List Wn}
end

section
variable {b:World} {F:List SP} {gq gm:Nat} {v h:Value} {V:List Int} {R H:List Wn}
end
open Go


section
variable {b:World} {F:List SP} {h:Value} {R H:List Wn} {e:Wn}
end

section
end

theorem aln (x:Int):(Lit.int .i64 x).wf=true↔I64 x:=by
 have h1:IntKind.i64.min = -9223372036854775808:=by decide
 have h2:IntKind.i64.max=9223372036854775807:=by decide
 simp [Lit.wf,h1,h2,I64]
def nS:Value:= .slice none 0 0
def nE (e:Ev):Ev:=e.own nS nS
def nW (w:Wn):Wn:=⟨0,nE w.e,w.src⟩
def flC {α:Type} (f:α→List Value):List α→List Value
 | [] => []
 | a :: l => f a ++ flC f l
section
variable {α:Type} {f:α→List Value} {l:List α} {sz:Nat}
theorem ic (a c:List α):flC f (a++c)=flC f a++flC f c:=by
 induction a with
 | nil => rfl
 | cons x a ih => simp only [aq2, flC, ih, ap0]
theorem l9 (h:∀ a∈l,(f a).length=sz):(flC f l).length=l.length*sz:=by
 induction l with
 | nil => simp [flC]
 | cons x l ih =>
  have h1:=h x aqe;have h2:=ih fun w hw=>h w (aqj _ hw)
  simp only [flC,aps,h1,h2,ap3,asi];omega
theorem yA (h:∀ a∈l,(f a).length=sz) {i:Nat} (hi:i<l.length) {j:Nat} (hj:j<sz):(flC f l)[i*sz+j]? = (f l[i])[j]?:=by
 induction l generalizing i with
 | nil => simp at hi
 | cons x l ih =>
  have h1:=h x aqe;cases i with
  | zero => simp only [flC, atu, aqy, arz]; exact aq6 (by omega)
  | succ i =>
   simp only [flC,List.getElem_cons_succ];rw [asj (by rw [h1,asi];omega),h1,asi,show i*sz+sz+j - sz=i*sz+j by omega];exact ih (fun w hw=>h w (aqj _ hw)) (by simpa using hi)
theorem gJ (h:∀ a∈l,(f a).length=sz) {i:Nat} (hi:i<l.length):((flC f l).drop (i*sz)).take sz=f l[i]:=by
 apply atn;intro j;rw [arh,arc];have h1:=h _ (apw hi)
 split
 ·rename_i hj;exact yA h hi hj
 ·rename_i hj;rw [as4 (by omega)]
theorem gK (h:∀ a∈l,(f a).length=sz) {i:Nat} {x:α} (hx:(f x).length=sz) (hi:i<l.length):spl (flC f l) (i*sz) (f x)=flC f (l.set i x):=by
 induction l generalizing i with
 | nil => simp at hi
 | cons y l ih =>
  have h1:=h y aqe;cases i with
  | zero =>
   simp only [List.set_cons_zero,flC,spl,atu,ar1,arb,aqy,hx];rw [arm (by omega),aq0 (by omega),arb]
  | succ i =>
   have:=ih (fun w hw=>h w (aqj _ hw)) (by simpa using hi);simp only [List.set_cons_succ,flC,← this,spl];rw [asi,show i*sz+sz=(f y).length+i*sz by omega,List.take_length_add_append,show (f y).length+i*sz+(f x).length=(f y).length+(i*sz+(f x).length) by omega,List.drop_length_add_append,ap0]
theorem yy (h:∀ a∈l,∀ u∈f a,u.oneCell'=true):∀ u∈flC f l,u.oneCell'=true:=by
 induction l with
 | nil => intro u hu; simp [flC] at hu
 | cons x l ih =>
  intro u hu;rcases ap6.1 hu with hu | hu
  ·exact h x aqe u hu
  ·exact ih (fun w hw=>h w (aqj _ hw)) u hu
theorem kJ {w:World} {bk off n c j:Nat} {cs:List Value} (h:SL w sz (.slice (some ⟨bk,off,none⟩) n c) n cs) (hj:j<cs.length):w.cell? ⟨bk,off+j,none⟩=cs[j]?:=by
 obtain ⟨A,c',hv,hl,_,_,_,hc⟩:=h;cases hv;obtain ⟨b',o',hA,_,hcc⟩:=hc (by
  rcases aq4 n with h0 | h0
  ·subst h0;simp at hl;subst hl;simp at hj
  ·exact h0)
 cases hA;exact hcc j hj
theorem ej {w:World} {bk off c i j:Nat} (h:SL w sz (.slice (some ⟨bk,off,none⟩) l.length c) l.length (flC f l)) (hf:∀ a∈l,(f a).length=sz) (hi:i<l.length) (hj:j<sz):w.cell? ⟨bk,off+i*sz+j,none⟩=(f l[i])[j]?:=by
 rw [ar9,kJ h,yA hf hi hj];rw [l9 hf];have:(i+1)*sz≤l.length*sz:=ara _ hi;rw [asi] at this;omega
end
theorem cA {l:List Value} (m:List Value) {n:Nat} (h:l.length=n):sn (l++m) 0 n=some l:=by
 subst h
 induction l with
 | nil => cases m <;> rfl
 | cons a l ih => simp only [aq2, ap3, sn, ih]
theorem Fz {e:Ev} (h:e.id.length=32):sn (evC e) 6 32=some (u8s e.id):=cA (n:=32) _ (by rw [bz,h])
theorem yz (l:List (List Int)):q6 l=flC u8s l:=by
 induction l with
 | nil => rfl
 | cons x l ih => simp only [q6, flC, ih]
structure ER (w:World) (e:Ev):Prop where
 dv:VL (Value.int .i64) w e.dv e.deps
 rv:SL w 32 e.rv e.refs.length (q6 e.refs)
structure EW (e:Ev):Prop where
 id:idOk e.id
 dot:lG (e.r,e.n)
 rf:∀ x∈e.refs,idOk x
 kind:I64 e.kind
 dp:∀ x∈e.deps,I64 x
 rs:e.repo.size≤maxLen
 ts:e.tag.size≤maxLen
theorem EW.l32 {e:Ev} (h:EW e):e.id.length=32:=h.id.1
section
variable {b:World} {F:List SP} {e:Ev} {l:List Wn}
theorem F3 {va vb:Value} {xs ys:List Int} (ha:∀ w,Sat b F w→VL (Value.int .i64) w va xs) (hb:∀ w,Sat b F w→VL (Value.int .i64) w vb ys):SC Tryz.prog sy [va,vb] b F (fun v F'=>v = .bool (decide (xs=ys))∧F'=F) :=
 SC.ofExt fun w H=>vP (ha w H) (hb w H)
theorem gL {va vb:Value} {l:List (List Int)} (ha:∀ w,Sat b F w→SL w 32 va l.length (q6 l)) (hb:∀ w,Sat b F w→SL w 32 vb l.length (q6 l)) (hl:nj l) (hm:l.length≤1000000):SC Tryz.prog cV [va,vb] b F (fun v F'=>v = .bool true∧F'=F):=by
 refine ao Tryz.func25 Z Z Z <| bu (fun w H=>ci (ha w H)) ?_;rintro ⟨A,c,rfl,h1,h2,h3,h4,_⟩;refine bu (fun w H=>ci (hb w H)) ?_;rintro ⟨B,d,rfl,q1,q2,q3,q4,_⟩;refine anf <| ae Z <| aby ?_
 (iterate 6 refine ae Z ?_)
 refine ane <| ac <| anf <| ae Z <| ane <| ak ?_;refine sm 5 (.bool true) Z (by simp) ?_;refine d6 (S:=Nat) (fun i=> [(0,.slice A l.length c),(1,.slice B l.length d),(5,.bool true),(6,ii i)]) (fun _=>F) (fun i=>i≤l.length) (fun i=>l.length - i) 0 av (aqc _) ?_;intro i hi;refine ac <| anf ?_
 (iterate 7 refine ae Z ?_)
 refine ane ?_;refine cj Z (fun g1=> ?_) (fun g1=> ?_)
 ·have g1':i<l.length:=by omega
  obtain ⟨gA,oA,rfl⟩:=h4 (by omega);obtain ⟨gB,oB,rfl⟩:=q4 (by omega);have hx:=hl _ (apw g1');have ca:∀ w,Sat b F w→∀ j,j<32→w.cell? ⟨gA,oA+i*32+j,none⟩=(u8s l[i])[j]?:=fun w H j hj=>ej (f:=u8s) (by rw [← yz];exact ha w H) (fun a h=>by rw [bz,hl a h]) g1' hj
  have cb:∀ w,Sat b F w→∀ j,j<32→w.cell? ⟨gB,oB+i*32+j,none⟩=(u8s l[i])[j]?:=fun w H j hj=>ej (f:=u8s) (by rw [← yz];exact hb w H) (fun a h=>by rw [bz,hl a h]) g1' hj
  generalize l[i]=x at *;refine ah <| ab <| ac <| ak <| cq flo _ (by decide +kernel) av <| bj Z Zl <| bj Z Zl <| dx Z Z ?_;refine j7 Z (fun w H=>di (cs:=u8s x) Z Z Z (by rw [bz,hx];rfl) (fun j hj=>by rw [b5,apu];exact ca w H j (by rw [bz,hx] at hj;exact hj))) Z Z ?_;refine bj Z Zl <| bj Z Zl <| dx Z Z ?_;refine j7 Z (fun w H=>di (cs:=u8s x) Z Z Z (by rw [bz,hx];rfl) (fun j hj=>by rw [b5,apu];exact cb w H j (by rw [bz,hx] at hj;exact hj))) Z Z ?_;refine dU Z (xS (as00:=x) (bs:=x) Z Z hx hx) Z Z ?_;refine eu 29 (.bool true) Z (by simp) ?_;refine bj Z Zl <| ap <| bg <| ab <| aa <| ae Z <| ay Z <| ae Z <| ad ?_;refine i9 (i+1) av ?_ ?_
  ·show i+1≤l.length;omega
  ·show l.length - (i+1)<l.length - i;omega
 ·refine b8 <| aw <| ax <| aq <| ab <| anf <| apn Z Z <| ane <| aj <| bh Z Z av ?_;exact ⟨rfl,rfl⟩
end

abbrev S9 (w:Wn):Int × Int:=(w.e.r,w.e.n)
def alo (d:Int × Int) (L:List Wn):Option Wn:=L.find? fun w=>decide (S9 w=d)
def Ey (d:Int × Int) (s:Int) (w:Wn):Wn:=if S9 w=d then ⟨w.g,w.e,s⟩ else w
structure QI (n:Nat) (V:List Int) (L:List Wn):Prop where
 n1:1≤n
 n2:n≤16
 len:V.length=n
 num:tA V
 nd:(L.map S9).Nodup
 fit:∀ w∈L,Xl n w.e w.src=true
 new:∀ w∈L,lj V w.e.r w.e.n=false
 ew:∀ w∈L,EW w.e
 rf:∀ w∈L,w.e.refs.length≤1000000
 many:L.length≤100000
 nrm:∀ w∈L,nW w=w
 so:L.Pairwise leG
structure HI (L R H:List Wn):Prop where
 perm:R.Perm H
 hp:hpG R.length R
 pm:L.Perm (H.map nW)
section
variable {n:Nat} {V:List Int} {L R H:List Wn} (hq:QI n V L) (hi:HI L R H)
include hi in
end

section
variable {n:Nat} {V:List Int} {L R H:List Wn}
end
section
variable {b:World} {F:List SP} {gq n:Nat} {V:List Int} {L:List Wn} {e:Ev} {s:Int}
end

section
variable {b:World} {F:List SP} {gq n:Nat} {V:List Int} {L R H:List Wn} {w:Wn}
end

def tC (V:List Int) (r m:Int):List Int:=V.set (r - 1).toNat m
theorem F4 {V:List Int} {r m:Int} (h1:1≤r) (h2:r≤V.length) (i:Nat):nn (tC V r m) i=if i=(r - 1).toNat then max m 0 else nn V i:=by
 unfold nn tC;rw [aqf,List.getElem?_set];by_cases h:(r - 1).toNat=i
 ·rw [if_pos h,if_pos h.symm,if_pos (by omega)];rfl
 ·rw [if_neg h,if_neg (fun e=>h e.symm),← aqf]
theorem Ta {V:List Int} {r m:Int} (h1:1≤r) (h2:r≤V.length) (h3:0≤m) (q:Int):atL (tC V r m) q=if q=r then m else atL V q:=by
 have hl:(tC V r m).length=V.length:=by simp [tC]
 unfold atL;rw [hl];by_cases h:q=r
 ·subst h;rw [if_pos ⟨h1,h2⟩,if_pos rfl,F4 h1 h2,if_pos rfl];omega
 ·rw [if_neg h]
  split
  ·rw [F4 h1 h2,if_neg (by omega)]
  ·rfl
section
variable {b:World} {F:List SP} {gq n:Nat} {V:List Int} {L R H:List Wn} {d:Int × Int}
end

abbrev Em:=Int × Int × List Int
def cnt (q:Int) (A:List Em):Int:=((A.filter fun e=>decide (e.1=q)).length:Int)
structure Md (n:Nat) (A:List Em):Prop where
 r:∀ i (hi:i<A.length),1≤A[i].1∧A[i].1≤n
 m:∀ i (hi:i<A.length),A[i].2.1=cnt A[i].1 (A.take i)+1
 len:∀ i (hi:i<A.length),A[i].2.2.length=n
 own:∀ i (hi:i<A.length),A[i].2.2.getD (A[i].1 - 1).toNat 0=A[i].2.1 - 1
 dep:∀ i (hi:i<A.length) (q:Nat),q<n→0≤A[i].2.2.getD q 0∧A[i].2.2.getD q 0≤cnt ((q:Int)+1) (A.take i)
theorem yR {l:List Int} {i:Nat} (h:i<l.length):l.getD i 0=l[i]:=by
 rw [aqf,apv h];rfl
section
variable {n:Nat} {A:List Em} (hm:Md n A)
include hm
end
abbrev em (e:Ev):Em:=(e.r,e.n,e.deps)
structure Qp (A:List Em) (V:List Int) (L:List Wn) (out:List Ev):Prop where
 inA:∀ w∈L,em w.e∈A
 outA:∀ e∈out,em e∈A
 und:∀ e∈out,lj V e.r e.n=true
 dl:∀ e∈out,jP e.deps V=true
 del:∀ q m,lj V q m=true→∃ e∈out,e.r=q∧e.n=m
 ord:out.Pairwise fun a c=>lj a.deps c.r c.n=false∧¬ (a.r=c.r∧a.n=c.n)
 self:∀ e∈out,lj e.deps e.r e.n=false
 ew:∀ e∈out,EW e
theorem Cd {V:List Int} {q m:Int}:lj V q m=true↔1≤q∧1≤m∧m≤atL V q:=by simp [lj,and_assoc]
theorem Ce {u v:List Int} {q m:Int} (h:jP u v=true) (h2:lj u q m=true):lj v q m=true:=by
 rw [Cd] at h2 ⊢;refine ⟨h2.1,h2.2.1,Int.le_trans h2.2.2 ?_⟩;have h3:=(Bw _ _).1 h (q - 1).toNat;unfold atL
 split <;> split
 ·exact h3
 ·rename_i h4 h5
  rw [yL (xs:=v) (by omega)] at h3;exact h3
 ·exact wO _ _
 ·exact ato _
theorem Tc {V:List Int} {r m:Int} (h1:1≤r) (h2:r≤V.length) (h3:atL V r≤m):jP V (tC V r m)=true:=(Bw _ _).2 fun i=>by
 rw [F4 h1 h2]
 split
 ·rename_i e
  rw [atL,if_pos ⟨h1,h2⟩,← e] at h3;omega
 ·exact ato _
section
variable {n:Nat} {A:List Em} {V:List Int} {L:List Wn} {out:List Ev} (hq:QI n V L) (hp:Qp A V L out)
include hq hp in
end

section
variable {b:World} {F:List SP} {e f:Ev} {l:List Wn}
end

section
variable {b:World} {F:List SP}
end

section
variable {b:World} {F:List SP}
end

section
variable {b:World} {F:List SP} {gw n:Nat} {V:List Int} {L M:List Wn} {e:Ev} {s:Int} {d:Int × Int}
end

section
variable {b:World} {F:List SP} {gw n:Nat} {V:List Int} {L M:List Wn} {e:Ev} {s:Int} {d:Int × Int}
end

section
variable {α:Type} {f:α→List Value} {l:List α} {sz:Nat}
end
section
variable {b:World} {F:List SP} {gw n:Nat} {V:List Int} {L M:List Wn} {e:Ev} {s:Int} {d:Int × Int}
end

section
variable {b:World} {F:List SP} {gw n:Nat} {V:List Int} {L M:List Wn} {e:Ev} {s:Int} {d:Int × Int}
end

section
variable {b:World} {F:List SP} {gw n:Nat} {V:List Int} {L M:List Wn} {e:Ev} {s:Int} {d:Int × Int}
end

section
variable {b:World} {F:List SP} {gq gw n:Nat} {V:List Int} {L M:List Wn} {e:Ev} {s:Int} {d:Int × Int} {gl:Nat}
end

section
variable {b:World} {F:List SP} {gq gw n:Nat} {V:List Int} {L M:List Wn} {e:Ev} {s:Int} {d:Int × Int} {gl:Nat}
end

structure Ac where
 kind:Int
 n:Int
 e:Ev
section
variable {b:World} {F:List SP} {gq gw n:Nat} {V:List Int} {L M:List Wn} {a:Ac}
end

section
variable {b:World} {F:List SP} {gq gw n:Nat} {V:List Int} {L M:List Wn} {e:Ev} {s:Int} {d:Int × Int}
end

def dnJ (n:Nat) (l:List (List Int)) (i:Nat):Nat:=if 2*i+2<n∧lD (l.getD (2*i+2) []) (l.getD (2*i+1) [])<0 then 2*i+2 else 2*i+1
theorem nH {n:Nat} {l:List (List Int)} {i:Nat} (h:¬ n≤2*i+1):dnJ n l i<n∧i<dnJ n l i:=by unfold dnJ;split <;> omega
def dnM:Nat→Nat→List (List Int)→Nat→List (List Int)
 | 0, _, l, _ => l
 | k + 1, n, l, i => if n ≤ 2 * i + 1 then l else if lD (l.getD (dnJ n l i) []) (l.getD i []) < 0 then dnM k n (oq l i (dnJ n l i)) (dnJ n l i) else l
theorem tD (k:Nat):∀ n l i,n - i≤k→dnM k n l i=dnM (n - i) n l i:=by
 induction k using Nat.strongRecOn with
 | ind k ih =>
  intro n l i hk;cases k with
  | zero => rw [show n - i = 0 by omega]
  | succ k =>
   rcases aq4 (n - i) with h0 | h0
   ·rw [h0];simp only [dnM];rw [if_pos (by omega)]
   ·obtain ⟨m,hm⟩:∃ m,n - i=m+1:=⟨n - i - 1,by omega⟩;rw [hm];simp only [dnM]
    split
    ·rfl
    ·rename_i h1
     have:=nH (l:=l) h1
     split
     ·exact (ih k (by omega) _ _ _ (by omega)).trans (ih m (by omega) _ _ _ (by omega)).symm
     ·rfl
section
variable {b:World} {F:List SP} {A:Option Addr} {c n gh:Nat} {l:List (List Int)}
theorem Zx {n0:Nat} (hl:nj l) (hn:l.length=n) (h0:n0≤n) (hm:n≤1000000) :
  SC Tryz.prog dF [.iface il (pp gh),ii 0,ii n0] b (pt gh cz [.slice A n c]::rN A c n l::F)
   (fun _ F'=>F'=pt gh cz [.slice A n c]::rN A c n (dnM n0 n0 l 0)::F):=by
 refine ao Tryz.func202 Z Z Z <| anf <| ae Z <| aby <| apn Z Z <| ane <| ac <| ak ?_;refine d6 (S:=List (List Int) × Nat) (fun s=> [(0,.iface il (pp gh)),(1,ii 0),(2,ii n0),(7,ii s.2)]) (fun s=>pt gh cz [.slice A n c]::rN A c n s.1::F)
  (fun s=>nj s.1∧s.1.length=n∧(s.2=0∨s.2<n0)∧dnM (n0 - s.2) n0 s.1 s.2=dnM n0 n0 l 0) (fun s=>n0 - s.2) (l,0) av ⟨hl,hn,.inl rfl,by rw [atq]⟩ ?_
 rintro ⟨m,i⟩ ⟨i1,i2,i3,i4⟩;dsimp only at i1 i2 i3 i4 ⊢;refine ak <| anf <| ae Z <| ay Z <| ay Z <| ae Z <| ane <| ac <| anf <| apo Z Z Z <| ae Z ?_;by_cases c1:n0≤2*i+1
 ·refine bn 18 (.bool true) Z (by simp;omega) ?_;refine apo Z Z Z <| ane <| ar Z <| b8 <| aw <| mw Z <| ax <| aq <| ab <| anf <| apo Z Z Z <| ae Z <| ane <| aj ?_;have e:m=dnM n0 n0 l 0:=by
   rw [← i4];cases hk:n0 - i with
   | zero => rfl
   | succ k => simp only [dnM]; rw [if_pos c1]
  refine bh Z Z (af 0 [] Z) ?_;rw [e]
 ·refine bn 18 (.bool false) Z (by simp;omega) ?_;refine apo Z Z Z <| ane <| ai Z <| ah <| ab <| anf <| apn Z Z <| ane <| ac <| anf <| ae Z <| ay Z <| ae Z <| aby <| apo Z Z Z <| ae Z ?_;refine bn 21 (.bool false) Z (by simp;omega) ?_
  skip
  obtain ⟨k,hk⟩:∃ k,n0 - i=k+1:=⟨n0 - i - 1,by omega⟩;have hJ:=nH (l:=m) c1;obtain ⟨j,hj⟩:∃ j,j=dnJ n0 m i:=⟨_,rfl⟩;rw [← hj] at hJ;by_cases c2:2*i+2<n0
  ·refine bn 28 (.bool true) Z (by simp;omega) ?_;refine apo Z Z Z ?_;subst i2;have hless:=lE (b:=b) (F:=pt gh cz [.slice A m.length c]::F) (A:=A) (c:=c) (l:=m) (i:=2*i+2) (j:=2*i+1) i1 (by omega) (by omega);refine bn 30 (ii (2*i+2:Nat)) Z (by first | rfl | (congr 1;omega)) ?_;refine bn 31 (ii (2*i+1:Nat)) Z (by first | rfl | (congr 1;omega)) ?_;refine xx 0 Z Z Z Z Z Z Z Z (hless.at (af 2 [1,0] Z) (af 2 [1,0] Z)) ?_;by_cases c3:lD (m.getD (2*i+2) []) (m.getD (2*i+1) [])<0
   ·refine wt 32 Z c3 ?_;have e:j=2*i+2:=by rw [hj,dnJ,if_pos ⟨c2,c3⟩]
    refine ae Z <| ane <| ar Z <| aa <| apn Z Z <| ane <| ac <| anf <| apo Z Z Z ?_;refine bn 36 (ii j) Z (by congr 1;omega) ?_;refine bn 9 (ii j) Z (by congr 1;omega) ?_;have hless2:=lE (b:=b) (F:=pt gh cz [.slice A m.length c]::F) (A:=A) (c:=c) (l:=m) (i:=j) (j:=i) i1 (by omega) (by omega);refine xx 0 Z Z Z Z Z Z Z Z (hless2.at (af 2 [1,0] Z) (af 2 [1,0] Z)) ?_;by_cases c4:lD (m.getD j []) (m.getD i [])<0
    ·refine wt 38 Z c4 <| ae Z <| ane <| ai Z <| ah <| ab <| anf <| apo Z Z Z ?_;have hswap:=lF (b:=b) (F:=pt gh cz [.slice A m.length c]::F) (A:=A) (c:=c) (n:=m.length) (l:=m) (i:=i) (j:=j) i1 Z (by omega) (by omega);refine gF 0 Z Z Z Z Z Z Z Z (hswap.ent (af 2 [1,0] Z)) ?_;rintro _ _ rfl;refine ane <| aa <| apn Z Z <| ad <| bg <| dj (oq m i j,j) (af 2 [1,0] Z) ⟨ye i1 (by omega) (by omega),fy _ _ _,.inr hJ.1,?_⟩;rw [← i4,hk];simp only [dnM,← hj,if_neg c1,if_pos c4];exact (tD k _ _ _ (by omega)).symm
    ·refine iQ 38 Z c4 <| ae Z <| ane <| ar Z <| b8 <| aw <| mw Z <| ax <| aq <| ab <| anf <| apo Z Z Z <| ae Z <| ane <| aj ?_;have e9:m=dnM n0 n0 l 0:=by rw [← i4,hk];simp only [dnM,← hj,if_neg c1,if_neg c4]
     refine bh Z Z (af 0 [] Z) ?_;rw [← e9]
   ·refine iQ 32 Z c3 ?_;have e:j=2*i+1:=by rw [hj,dnJ,if_neg (fun h=>c3 h.2)]
    refine ae Z <| ane <| ai Z <| ah <| ab <| ac <| anf <| apo Z Z Z ?_;refine bn 36 (ii j) Z (by congr 1;omega) ?_;refine bn 9 (ii j) Z (by congr 1;omega) ?_;have hless2:=lE (b:=b) (F:=pt gh cz [.slice A m.length c]::F) (A:=A) (c:=c) (l:=m) (i:=j) (j:=i) i1 (by omega) (by omega);refine xx 0 Z Z Z Z Z Z Z Z (hless2.at (af 2 [1,0] Z) (af 2 [1,0] Z)) ?_;by_cases c4:lD (m.getD j []) (m.getD i [])<0
    ·refine wt 38 Z c4 <| ae Z <| ane <| ai Z <| ah <| ab <| anf <| apo Z Z Z ?_;have hswap:=lF (b:=b) (F:=pt gh cz [.slice A m.length c]::F) (A:=A) (c:=c) (n:=m.length) (l:=m) (i:=i) (j:=j) i1 Z (by omega) (by omega);refine gF 0 Z Z Z Z Z Z Z Z (hswap.ent (af 2 [1,0] Z)) ?_;rintro _ _ rfl;refine ane <| aa <| apn Z Z <| ad <| bg <| dj (oq m i j,j) (af 2 [1,0] Z) ⟨ye i1 (by omega) (by omega),fy _ _ _,.inr hJ.1,?_⟩;rw [← i4,hk];simp only [dnM,← hj,if_neg c1,if_pos c4];exact (tD k _ _ _ (by omega)).symm
    ·refine iQ 38 Z c4 <| ae Z <| ane <| ar Z <| b8 <| aw <| mw Z <| ax <| aq <| ab <| anf <| apo Z Z Z <| ae Z <| ane <| aj ?_;have e9:m=dnM n0 n0 l 0:=by rw [← i4,hk];simp only [dnM,← hj,if_neg c1,if_neg c4]
     refine bh Z Z (af 0 [] Z) ?_;rw [← e9]
  ·refine bn 28 (.bool false) Z (by simp;omega) ?_
   (iterate 5 refine ae Z ?_)
   refine ane <| ai Z <| ah <| ab <| ac <| anf <| apo Z Z Z ?_;have e:j=2*i+1:=by rw [hj,dnJ,if_neg (fun h=>c2 h.1)]
   subst i2;refine bn 36 (ii j) Z (by congr 1;omega) ?_;refine bn 9 (ii j) Z (by congr 1;omega) ?_;have hless2:=lE (b:=b) (F:=pt gh cz [.slice A m.length c]::F) (A:=A) (c:=c) (l:=m) (i:=j) (j:=i) i1 (by omega) (by omega);refine xx 0 Z Z Z Z Z Z Z Z (hless2.at (af 2 [1,0] Z) (af 2 [1,0] Z)) ?_;by_cases c4:lD (m.getD j []) (m.getD i [])<0
   ·refine wt 38 Z c4 <| ae Z <| ane <| ai Z <| ah <| ab <| anf <| apo Z Z Z ?_;have hswap:=lF (b:=b) (F:=pt gh cz [.slice A m.length c]::F) (A:=A) (c:=c) (n:=m.length) (l:=m) (i:=i) (j:=j) i1 Z (by omega) (by omega);refine gF 0 Z Z Z Z Z Z Z Z (hswap.ent (af 2 [1,0] Z)) ?_;rintro _ _ rfl;refine ane <| aa <| apn Z Z <| ad <| bg <| dj (oq m i j,j) (af 2 [1,0] Z) ⟨ye i1 (by omega) (by omega),fy _ _ _,.inr hJ.1,?_⟩;rw [← i4,hk];simp only [dnM,← hj,if_neg c1,if_pos c4];exact (tD k _ _ _ (by omega)).symm
   ·refine iQ 38 Z c4 <| ae Z <| ane <| ar Z <| b8 <| aw <| mw Z <| ax <| aq <| ab <| anf <| apo Z Z Z <| ae Z <| ane <| aj ?_;have e9:m=dnM n0 n0 l 0:=by rw [← i4,hk];simp only [dnM,← hj,if_neg c1,if_neg c4]
    refine bh Z Z (af 0 [] Z) ?_;rw [← e9]
end

theorem Td (k:Nat):∀ l j,(upM k l j).length=l.length:=by
 induction k with
 | zero => intro l j; rfl
 | succ k ih => intro l j; simp only [upM]; split; rfl; split; rw [ih, fy]; rfl
theorem Te (k:Nat):∀ n l j,(dnM k n l j).length=l.length:=by
 induction k with
 | zero => intro n l j; rfl
 | succ k ih => intro n l j; simp only [dnM]; split; rfl; split; rw [ih, fy]; rfl
theorem Zy (k:Nat):∀ n l j,nj l→j<l.length→n≤l.length→nj (dnM k n l j):=by
 induction k with
 | zero => intro n l j h _ _; exact h
 | succ k ih =>
  intro n l j h hj hn;simp only [dnM];split
  ·exact h
  ·rename_i h1
   have:=nH (l:=l) h1
   split
   ·exact ih _ _ _ (ye h hj (by omega)) (by rw [fy];omega) (by rw [fy];omega)
   ·exact h
def n7 (l:List (List Int)):List (List Int):=dnM (l.length - 1) (l.length - 1) (oq l 0 (l.length - 1)) 0
theorem tE (l:List (List Int)):(n7 l).length=l.length:=by rw [n7,Te,fy]
theorem Tf {l:List (List Int)} (h:nj l) (hn:0<l.length):nj (n7 l):=Zy _ _ _ _ (ye h hn (by omega)) (by rw [fy];exact hn) (by rw [fy];omega)
section
variable {b:World} {F:List SP} {A:Option Addr} {c n gh:Nat} {l:List (List Int)} {x:List Int}
theorem qB:SC Tryz.prog n_blob_digests_Len [.slice A n c] b F (fun v F'=>v=ii n∧F'=F):=by
 have:=Zu (b:=b) (F:=F) (A:=A) (c:=c) (l:=List.replicate n []);rwa [atg] at this
theorem Th (hl:nj l) (hn:l.length=n) (hx:x.length=32) (hm:n≤900000) :
  SC Tryz.prog dA [.iface il (pp gh),.iface t_api_ID (idV x)] b (pt gh cz [.slice A n c]::rN A c n l::F)
   (fun _ F'=>∃ A' c',F'=pt gh cz [.slice A' (n+1) c']::rN A' c' (n+1) (upM (n+1) (l ++ [x]) n)::F):=by
 refine ao Tryz.func122 Z Z Z <| anf <| apn Z Z <| Hg Z Z Z (S8 hx (by omega)) ?_;rintro _ _ ⟨A',c',rfl⟩;refine ane <| aa <| apn Z Z <| xx 0 Z Z Z Z Z Z Z Z qB <| ay Z ?_;refine bn 10 (ii n) Z (by congr 1;omega) ?_;have hl':nj (l ++ [x]):=fun a ha=>by
  rcases ap6.1 ha with h | h
  ·exact hl a h
  ·simp at h;subst h;exact hx
 refine am Z Z Z (ao8 (n:=n+1) (l:=l ++ [x]) (j:=n) hl' (by simp;omega) (by omega) (by omega)) ?_;rintro _ _ rfl;refine ad <| io Z .nil (af 0 [] Z) ?_;exact ⟨A',c',rfl⟩
theorem Zz (hl:nj l) (hn:l.length=n+1) (hm:n≤900000) :
  SC Tryz.prog eH [.iface il (pp gh)] b (pt gh cz [.slice A (n+1) c]::rN A c (n+1) l::F)
   (fun v F'=>v = .iface t_api_ID (idV ((n7 l).getD n []))∧F'=pt gh cz [.slice A n c]::rN A c n ((n7 l).take n)::F):=by
 have p1:=tE l;have p2:=Tf hl (by omega);have ep:n7 l=(n7 l).take n ++ [(n7 l).getD n []]:=by
  have h:=(aqs n (n7 l)).symm;have h2:(n7 l).drop n = [(n7 l).getD n []]:=by
   rw [aqf,apv (by omega),as2,aqq (by omega),aq0 (by omega)]
  rwa [h2] at h
 have hL:((n7 l).take n).length=n:=by rw [ap7];omega
 have hx:((n7 l).getD n []).length=32:=aW p2 (by omega);have hp:n7 l=dnM n n (oq l 0 n) 0:=by rw [n7,hn];rfl
 refine ao Tryz.func125 Z Z Z <| anf <| ae Z <| aby <| ae Z <| xx 0 Z Z Z Z Z Z Z Z qB <| ay Z <| ae Z <| aby <| apn Z Z ?_;refine bn 8 (ii n) Z (by congr 1;omega) ?_;refine bn 3 (ii n) Z (by congr 1;omega) ?_;have hswap:=lF (b:=b) (F:=pt gh cz [.slice A (n+1) c]::F) (A:=A) (c:=c) (n:=n+1) (l:=l) (i:=0) (j:=n) hl hn (by omega) (by omega);refine gF 0 Z Z Z Z Z Z Z Z (hswap.ent (af 2 [1,0] Z)) ?_;rintro _ _ rfl;refine aby <| apn Z Z ?_;have hd:=Zx (b:=b) (F:=F) (A:=A) (c:=c) (n:=n+1) (gh:=gh) (l:=oq l 0 n) (n0:=n) (ye hl (by omega) (by omega)) (by rw [fy];exact hn) (by omega) (by omega);rw [← hp,ep] at hd;refine am Z Z Z (hd.ent (af 2 [1,0] Z)) ?_;rintro _ _ rfl;refine aby <| ae Z ?_;have hq:=Zw (b:=b) (F:=F) (A:=A) (c:=c) (gh:=gh) (x:=(n7 l).getD n []) (l0:=(n7 l).take n) (fun a ha=>p2 a (arf ha)) hx;rw [hL] at hq;refine Hg Z Z Z hq ?_;rintro _ _ ⟨rfl,rfl⟩;refine ae Z <| ane <| aj <| bh Z Z (af 0 [] Z) ?_;exact ⟨rfl,rfl⟩
end

theorem fE:∀ x y:List UInt8,Lib.compareBytes x y<0→¬ Lib.compareBytes y x<0
 | [], [] => by simp [Lib.compareBytes]
 | [], _ :: _ => by simp [Lib.compareBytes]
 | _ :: _, [] => by simp [Lib.compareBytes]
 | a :: x, b :: y => by
  have ih:=fE x y;simp only [Lib.compareBytes,ati]
  repeat' split
  all_goals first | omega | exact ih
theorem Cf:∀ x y z:List UInt8,¬ Lib.compareBytes y x<0→¬ Lib.compareBytes z y<0→¬ Lib.compareBytes z x<0
 | [], _, [] => by simp [Lib.compareBytes]
 | [], _, _ :: _ => by simp [Lib.compareBytes]
 | _ :: _, [], [] => by simp [Lib.compareBytes]
 | _ :: _, _ :: _, [] => by simp [Lib.compareBytes]
 | _ :: _, [], _ :: _ => by simp [Lib.compareBytes]
 | a :: x, b :: y, c :: z => by
  have ih:=Cf x y z;simp only [Lib.compareBytes,ati]
  repeat' split
  all_goals first | omega | exact ih
def leM (x y:List Int):Prop:=¬ lD y x<0
theorem F5 {x y:List Int} (h:lD x y<0):leM x y:=fE _ _ h
theorem aX {x y z:List Int} (h1:leM x y) (h2:leM y z):leM x z:=Cf _ _ _ h1 h2
abbrev at' (l:List (List Int)) (i:Nat):List Int:=l.getD i []
theorem lH (l:List (List Int)) {i j:Nat} (hi:i<l.length) (hj:j<l.length) (k:Nat):at' (oq l i j) k=if k=j then at' l i else if k=i then at' l j else at' l k:=by
 simp only [at',oq,aqf,List.getElem?_set,asw]
 repeat' split
 all_goals first | rfl | omega | simp_all
theorem jT {l:List (List Int)} {i j:Nat} (hi:i<l.length) (hj:j<l.length):(oq l i j).Perm l:=by
 have:=List.set_set_perm hi hj;simp only [oq,aqf,apv hi,apv hj,as2];exact this
def hpN (n:Nat) (l:List (List Int)):Prop:=∀ i,0<i→i<n→leM (at' l ((i - 1) / 2)) (at' l i)
def upI (l:List (List Int)) (j:Nat):Prop:=(∀ i,0<i→i<l.length→i≠j→leM (at' l ((i - 1) / 2)) (at' l i))∧∀ c,0<c→c<l.length→(c - 1) / 2=j→0<j→leM (at' l ((j - 1) / 2)) (at' l c)
theorem Z0 (k:Nat):∀ l j,j<k→j<l.length→upI l j→hpN l.length (upM k l j):=by
 induction k with
 | zero => intro l j h; omega
 | succ k ih =>
  intro l j hk hj ⟨h1,h2⟩;simp only [upM]
  split
  ·rename_i h0;intro i a b;exact h1 i a b (by omega)
  ·rename_i h0
   have hp:(j - 1) / 2<j:=by omega
   split
   ·rename_i hlt
    have sw:=lH l (i:=(j - 1) / 2) (j:=j) (by omega) hj;have hle:=F5 hlt;have:=ih (oq l ((j - 1) / 2) j) ((j - 1) / 2) (by omega) (by rw [fy];omega) ⟨fun i a b c=> ?_,fun c a b d e=> ?_⟩
    ·rwa [fy] at this
    ·rw [fy] at b;rw [sw,sw];by_cases e1:i=j
     ·subst e1;rw [if_neg (by omega),if_pos rfl,if_pos rfl];exact hle
     ·rw [if_neg e1,if_neg c];by_cases e2:(i - 1) / 2=j
      ·rw [if_pos e2];exact h2 i a b e2 (by omega)
      ·rw [if_neg e2];by_cases e3:(i - 1) / 2=(j - 1) / 2
       ·rw [if_pos e3];exact aX hle (e3▸h1 i a b e1)
       ·rw [if_neg e3];exact h1 i a b e1
    ·rw [fy] at b;rw [sw,sw,if_neg (by omega),if_neg (by omega)];have hpp:=h1 ((j - 1) / 2) (by omega) (by omega) (by omega);by_cases e1:c=j
     ·rw [if_pos e1];exact hpp
     ·rw [if_neg e1,if_neg (by omega)];exact aX hpp (d▸h1 c a b e1)
   ·rename_i hlt
    intro i a b;by_cases e1:i=j
    ·subst e1;exact hlt
    ·exact h1 i a b e1
theorem Ob (k:Nat):∀ l j,j<l.length→(upM k l j).Perm l:=by
 induction k with
 | zero => intro l j _; exact .refl _
 | succ k ih =>
  intro l j hj;simp only [upM]
  split
  ·exact .refl _
  ·split
   ·exact (ih _ _ (by rw [fy];omega)).trans (jT (by omega) hj)
   ·exact .refl _
def dnI (n:Nat) (l:List (List Int)) (i:Nat):Prop:=(∀ k,0<k→k<n→(k - 1) / 2≠i→leM (at' l ((k - 1) / 2)) (at' l k))∧∀ k,0<k→k<n→(k - 1) / 2=i→0<i→leM (at' l ((i - 1) / 2)) (at' l k)
theorem Z1 {n:Nat} {l:List (List Int)} {i:Nat} (k:Nat) (h0:0<k) (hk:k<n) (h:(k - 1) / 2=i):leM (at' l (dnJ n l i)) (at' l k):=by
 have hself:leM (at' l k) (at' l k):=fun h=>fE _ _ h h
 have hk':k=2*i+1∨k=2*i+2:=by omega
 unfold dnJ
 split
 ·rename_i h1
  rcases hk' with rfl | rfl
  ·exact F5 h1.2
  ·exact hself
 ·rename_i h1
  rcases hk' with rfl | rfl
  ·exact hself
  ·exact fun h2=>h1 ⟨hk,h2⟩
theorem Z2 (f:Nat):∀ n l i,n - i≤f→n≤l.length→dnI n l i→hpN n (dnM f n l i):=by
 induction f with
 | zero => intro n l i hf hn ⟨h1, _⟩ k a b; exact h1 k a b (by omega)
 | succ f ih =>
  intro n l i hf hn ⟨h1,h2⟩;simp only [dnM]
  split
  ·rename_i h0;intro k a b;exact h1 k a b (by omega)
  ·rename_i h0
   have hJ:=nH (l:=l) h0;have hJp:(dnJ n l i - 1) / 2=i:=by unfold dnJ;split <;> omega
   have hch:=fun k a b e=>Z1 (n:=n) (l:=l) (i:=i) k a b e
   generalize dnJ n l i=j at *
   split
   ·rename_i hlt
    have sw:=lH l (i:=i) (j:=j) (by omega) (by omega);have hle:=F5 hlt;refine ih n (oq l i j) j (by omega) (by rw [fy];exact hn) ⟨fun k a b c=> ?_,fun k a b d e=> ?_⟩
    ·rw [sw,sw];by_cases e1:k=j
     ·subst e1;rw [if_neg (by omega),if_pos hJp,if_pos rfl];exact hle
     ·rw [if_neg e1,if_neg c];by_cases e2:k=i
      ·subst e2;rw [if_neg (by omega),if_pos rfl];exact h2 j (by omega) hJ.1 hJp a
      ·rw [if_neg e2];by_cases e3:(k - 1) / 2=i
       ·rw [if_pos e3];exact hch k a b e3
       ·rw [if_neg e3];exact h1 k a b e3
    ·rw [sw,sw,if_neg (by omega),if_pos hJp,if_neg (by omega),if_neg (by omega)];exact d▸h1 k a b (by omega)
   ·rename_i hlt
    intro k a b;by_cases e3:(k - 1) / 2=i
    ·rw [e3];exact aX hlt (hch k a b e3)
    ·exact h1 k a b e3
theorem Oc (f:Nat):∀ n l i,i<l.length→n≤l.length→(dnM f n l i).Perm l:=by
 induction f with
 | zero => intro n l i _ _; exact .refl _
 | succ f ih =>
  intro n l i hi hn;simp only [dnM]
  split
  ·exact .refl _
  ·rename_i h0
   have hJ:=nH (l:=l) h0
   split
   ·exact (ih _ _ _ (by rw [fy];omega) (by rw [fy];exact hn)).trans (jT hi (by omega))
   ·exact .refl _
theorem Z3 (f:Nat):∀ n l i m,n≤m→i<n→n≤l.length→at' (dnM f n l i) m=at' l m:=by
 induction f with
 | zero => intro n l i m _ _ _; rfl
 | succ f ih =>
  intro n l i m hm hi hn;simp only [dnM]
  split
  ·rfl
  ·rename_i h0
   have hJ:=nH (l:=l) h0
   split
   ·rw [ih _ _ _ _ hm hJ.1 (by rw [fy];exact hn),lH l (by omega) (by omega),if_neg (by omega),if_neg (by omega)]
   ·rfl
theorem Ti {n:Nat} {l:List (List Int)} (h:hpN n l) (k:Nat):k<n→leM (at' l 0) (at' l k):=by
 induction k using Nat.strongRecOn with
 | ind k ih =>
  intro hk;rcases aq4 k with rfl | h0
  ·exact fun h=>fE _ _ h h
  ·exact aX (ih _ (by omega) (by omega)) (h k h0 hk)
theorem Tj {l:List (List Int)} {x:List Int} (h:hpN l.length l):hpN (l.length+1) (upM (l.length+1) (l ++ [x]) l.length):=by
 have:=Z0 (l.length+1) (l ++ [x]) l.length (by omega) (by simp) ⟨fun i a b c=> ?_,fun c a b d e=> ?_⟩
 ·simpa using this
 ·simp only [aps,ap3,aro] at b;have:=h i a (by omega);simp only [at',aqf] at this ⊢;rwa [aq6 (by omega),aq6 (by omega)]
 ·simp only [aps,ap3,aro] at b;omega
theorem Z4 {l:List (List Int)} {n:Nat} (hn:l.length=n+1) (h:hpN (n+1) l) :
  hpN n ((n7 l).take n)∧((n7 l).getD n []::(n7 l).take n).Perm l∧∀ x∈(n7 l).take n,leM ((n7 l).getD n []) x:=by
 have hp:n7 l=dnM n n (oq l 0 n) 0:=by rw [n7,hn];rfl
 have sw:=lH l (i:=0) (j:=n) (by omega) (by omega);have hlen:=tE l;have hat:(n7 l).getD n []=at' l 0:=by
  rcases aq4 n with rfl | h0
  ·rw [hp];show at' (oq l 0 0) 0=_;rw [sw];simp
  ·rw [hp];show at' (dnM n n (oq l 0 n) 0) n=_;rw [Z3 n n _ 0 n (aqp _) h0 (by rw [fy];omega),sw,if_pos rfl]
 have hperm:(n7 l).Perm l:=by rw [hp];exact (Oc _ _ _ _ (by rw [fy];omega) (by rw [fy];omega)).trans (jT (by omega) (by omega))
 have ep:n7 l=(n7 l).take n ++ [(n7 l).getD n []]:=by
  have h:=(aqs n (n7 l)).symm;have h2:(n7 l).drop n = [(n7 l).getD n []]:=by
   rw [aqf,apv (by omega),as2,aqq (by omega),aq0 (by omega)]
  rwa [h2] at h
 have hperm2:((n7 l).getD n []::(n7 l).take n).Perm l:=by
  refine List.Perm.trans ?_ hperm
  conv=>rhs;rw [ep]
  exact (List.perm_append_singleton _ _).symm
 refine ⟨?_,hperm2,fun x hx=> ?_⟩
 ·have:=Z2 n n (oq l 0 n) 0 (by omega) (by rw [fy];omega) ⟨fun k a b c=> ?_,fun k a b d e=>by omega⟩
  ·rw [← hp] at this;intro i a b;have:=this i a b;simp only [at',aqf] at this ⊢;rwa [arh,if_pos (by omega),arh,if_pos (by omega)]
  ·rw [sw,sw,if_neg (by omega),if_neg (by omega),if_neg (by omega),if_neg (by omega)];exact h k a (by omega)
 ·rw [hat];have hm:=hperm.subset (arf hx);obtain ⟨k,hk,rfl⟩:=asu.1 hm;have:=Ti h k (by omega);simp only [at',aqf,apv hk,as2] at this;simp only [at',aqf];exact this

theorem Z5 (l:List Kp):(kM l).map (·.1)=l.map (·.id):=by
 induction l with
 | nil => rfl
 | cons e l ih => simp only [kM, aqt, ih]
section
variable {b:World} {F:List SP}
theorem Z6 {n:Nat} (hn:n≤1000000):SC Tryz.prog uq [.slice none 0 0,ii n] b F (fun v F'=>∃ A c,v = .slice A 0 c∧F'=rN A c 0 []::F):=by
 refine ao Tryz.func123 Z Z Z <| anf <| ae Z <| ane <| ac <| anf <| apn Z Z <| ane <| ai Z <| ah <| ab <| ac <| anf ?_
 (iterate 5 refine ae Z ?_)
 refine ay Z <| ay Z <| ae Z <| aby <| apn Z Z <| ane ?_;refine cj Z (fun h=> ?_) (fun h=> ?_)
 ·refine aa <| apo Z Z Z <| ay Z <| ae Z ?_;refine bn 21 (ii n) Z (by first | rfl | (congr 1;omega)) ?_;refine Hj (sz:=32) Z Z Z Z Z Z Z Z Z (by omega) (by omega) fun gg c zs=>apn Z Z <| ay Z <| ae Z <| aby <| apn Z Z <| ane <| aj <| bh Z Z (wz (j:=0) (by omega) 0 Z Z) ?_
  exact ⟨_,_,rfl,rfl⟩
 ·refine ah <| ab <| anf <| apn Z Z <| ane <| aj <| bh Z Z ((de t_api_ID 32 Z).trans (af 1 [0] Z)) ?_;exact ⟨none,0,rfl,rfl⟩
variable {w r u:Int} {gs gm:Nat} {l:List Kp}
theorem Od (hid:∀ e∈l,idOk e.id) (hn:l.length≤100000):SC Tryz.prog jJ [pp gs] b (stB gs gm w r u l F)
  (fun v F'=>∃ A c L,v = .slice A L.length c∧L.Pairwise leM∧L.Perm (l.map (·.id))∧F'=rN A c L.length L::stB gs gm w r u l F):=by
 refine ao Tryz.func57 Z Z Z <| anf <| ae Z <| ane <| ac <| anf <| ae Z <| au Z Z Z (jS) <| ane <| ai Z <| ah <| ab <| anf <| Hi Z Z Z Z Z fun g0=> ?_
 skip
 refine br Z Z Z Z Z fun gh=>ae Z <| ane <| ac <| anf <| apo Z Z Z <| ba 2 Z Z Z <| rF 3 Z Z Z Z Z (fun _=>rfl) Z fun gi=>ane <| ak ?_
 refine d6 (S:=List (List Int) × Nat × Option Addr × Nat × List (List Int × Value) × Option (List Int × Value))
  (fun s=> [(0,pp gs),(3,pp gh),(14,pp gi)])
  (fun s=>pt gh cz [.slice s.2.2.1 s.2.1 s.2.2.2.1]::rN s.2.2.1 s.2.2.2.1 s.2.1 s.1::mr gm gi (fun a:List Int=> .agg ⟨a.map (Value.int .u8)⟩) idOk (kM l) s.2.2.2.2.1 s.2.2.2.2.2::pt gs kt (stC w r u gm)::all (kF l)::F)
  (fun s=>s.1.length=s.2.1∧hpN s.2.1 s.1∧(s.1++s.2.2.2.2.1.map (·.1)).Perm (l.map (·.id))) (fun s=>s.2.2.2.2.1.length) ([],0,some ⟨g0,0,none⟩,0,kM l,none) ?_ ?_ ?_
 ·exact (af 4 [0,1,3,2] Z).trans (kx (n:=0) (sz:=32) Z (by rfl) (by omega) 1 Z Z)
 ·exact ⟨rfl,fun i _ hi=>absurd hi (Nat.not_lt_zero i),by rw [Z5];exact .refl _⟩
 rintro ⟨h,n,A,c,R,cur⟩ ⟨i0,i1,i2⟩;dsimp only at i0 i1 i2 ⊢;have hlen:n+R.length=l.length:=by have:=i2.length_eq;simpa [i0] using this
 have h32:∀ a,a∈h∨a∈R.map (·.1)→idOk a:=fun a ha=>by
  have:=i2.subset (ap6.2 ha);obtain ⟨e,he,rfl⟩:=ap8.1 this;exact hid e he
 refine anf ?_;refine xW 2 Z Z Z Z (fun _ _ _=>rfl) Z (fun hR=> ?_) (fun R1 y R2 hR=> ?_)
 ·subst hR;refine ae Z <| ane <| ac <| ai Z <| b8 <| aw <| ax <| aq <| ab <| anf <| apn Z Z <| ba 0 Z Z Z <| au Z Z Z (qB) ?_
  skip
  refine am Z Z Z (Z6 (by omega)) ?_;rintro _ _ ⟨Ao,co,rfl,rfl⟩;refine ae Z <| ane <| ac <| ak ?_;refine d6 (S:=List (List Int) × Nat × List (List Int) × Nat × Option Addr × Nat)
   (fun s=> [(3,pp gh),(5,.slice s.2.2.2.2.1 s.2.2.2.1 s.2.2.2.2.2)])
   (fun s=>pt gh cz [.slice A s.2.1 c]::rN A c s.2.1 s.1::rN s.2.2.2.2.1 s.2.2.2.2.2 s.2.2.2.1 s.2.2.1::stB gs gm w r u l F)
   (fun s=>s.1.length=s.2.1∧s.2.2.1.length=s.2.2.2.1∧hpN s.2.1 s.1∧(s.2.2.1++s.1).Perm (l.map (·.id))∧s.2.2.1.Pairwise leM∧∀ x∈s.2.2.1,∀ y∈s.1,leM x y) (fun s=>s.2.1) (h,n,[],0,Ao,co) ?_ ?_ ?_
  ·exact ((af 5 [1,2,0,4,3] Z).trans (Es 4 Z Z))
  ·exact ⟨i0,rfl,i1,by simpa using i2,.nil,fun x hx=>by simp at hx⟩
  rintro ⟨h2,n2,out,no,Ao2,co2⟩ ⟨j0,j00,j1,j2,j3,j4⟩;dsimp only at j0 j00 j1 j2 j3 j4 ⊢;have hlen2:no+n2=l.length:=by have:=j2.length_eq;simpa [j0,j00] using this
  have h32':∀ a,a∈out∨a∈h2→idOk a:=fun a ha=>by
   have:=j2.subset (ap6.2 ha);obtain ⟨e,he,rfl⟩:=ap8.1 this;exact hid e he
  refine ac <| anf <| apn Z Z <| ba 0 Z Z Z <| au Z Z Z (qB) <| ae Z <| ane ?_;refine cj Z (fun h0=> ?_) (fun h0=> ?_)
  ·obtain ⟨m,rfl⟩:∃ m,n2=m+1:=⟨n2 - 1,by omega⟩;obtain ⟨q1,q2,q3⟩:=Z4 j0 j1;refine ah <| ab <| ak <| aa <| apo Z Z Z <| am Z Z Z (Zz (fun a ha=>(h32' a (.inr ha)).1) j0 (by omega)) ?_;rintro _ _ ⟨rfl,rfl⟩;have hx:((n7 h2).getD m []).length=32:=(h32' _ (.inr (q2.subset aqe))).1;have hl2:=tE h2;generalize (n7 h2).getD m []=x at *;have hl3:((n7 h2).take m).length=m:=by rw [ap7];omega
   generalize (n7 h2).take m=h3 at *
   skip
   refine ab1 Z Z Z Z Z Z ?_;refine li Z Z Z Z Z Z Z (by rw [bz,hx];rfl) (by decide) fun gl=> ?_;refine ef 3 Z Z Z Z Z Z Z Z Z (m:=1) (news:=u8s x) (fun w H=>(H.blk (k:=0) Z).sl (by rw [bz,hx]) (by decide)) (ec _) (by omega) (fun _=>rfl) fun v8=> ?_;rw [tB];refine b6 (fun w H=>(H.oat (k:=3) Z).form) ?_;rintro ⟨A7,c7,rfl,_,_,_⟩;refine ae Z <| ad <| bg ?_;refine dj (h3,m,out ++ [x],no+1,A7,c7) (af 4 [1,2,3] Z) ⟨hl3,by simp;omega,q1,?_,?_,?_⟩
   ·dsimp only;rw [ap0];exact (List.Perm.append_left out q2).trans j2
   ·refine arn.2 ⟨j3,by simp,fun a ha z hz=> ?_⟩;obtain rfl:z=x:=by simpa using hz
    exact j4 a ha z (q2.subset aqe)
   ·intro a ha z hz;rcases ap6.1 ha with ha | ha
    ·exact j4 a ha z (q2.subset (aqj _ hz))
    ·obtain rfl:a=x:=by simpa using ha
     exact q3 z hz
  ·refine b8 <| aw <| ax <| aq <| ab <| anf <| apn Z Z <| ane <| aj ?_;obtain rfl:h2 = []:=aql (by omega);subst j00;refine bh Z Z (af 3 [2] Z) ?_;exact ⟨Ao2,co2,out,rfl,j3,by simpa using j2,rfl⟩
 ·subst hR;have hy:=h32 y.1 (.inr (by simp));have hl3:n+(R1.length+(R2.length+1))=l.length:=by simpa using hlen
  refine ae Z <| ane <| ac <| ar Z <| ah <| ab <| ak <| anf <| rG 2 Z Z Z Z Z <| ae Z <| bq Z Z Z Z Z fun g4=> ?_;refine eh 0 Z Z Z Z Z Z Z (by rw [bz,hy.1];rfl) (ec _) (by simp [hy.1]) ?_;refine ane <| aa <| apn Z Z <| b7 0 Z Z Z Z Z Z (ek hy.1) Z <| ae Z <| am Z Z Z ((Th (x:=y.1) (fun a ha=>(h32 a (.inl ha)).1) i0 hy.1 (by omega)).ent (af 3 [1,2] Z)) ?_;rintro _ _ ⟨A',c',rfl⟩;refine ad <| bg ?_;subst i0;refine i9 (upM (h.length+1) (h ++ [y.1]) h.length,h.length+1,A',c',R1++R2,some y) av ⟨by rw [Td];simp,Tj i1,?_⟩ (by simp);refine (List.Perm.append_right _ (Ob _ _ _ (by simp))).trans (List.Perm.trans ?_ i2);simp only [ap0,aqa,aqt];refine List.Perm.append_left h ?_;exact (aqz (l₁:=R1.map (·.1)) (a:=y.1)).symm
end

section
variable {b:World} {F:List SP} {p:Value} {id:List Int} (hn:∀ A:List SP,SC Tryz.prog qe [p] b (A++F) (fun v F'=>v = .bool true∧F'=A++F))
include hn
end
section
variable {b:World} {F:List SP} {q A0:Option Addr} {n0 c0:Nat} {id:List Int} (hn:∀ A:List SP,SC Tryz.prog qe [.pointer q] b (A++F) (fun v F'=>v = .bool true∧F'=A++F))
include hn
end

section
variable {b:World} {F:List SP} {gs gm:Nat} {w r u u':Int} {l:List Kp} {s:ByteArray} {is:Bool} {e:Int} {Pl:List Kp→Prop}
end
theorem Hx (s:ByteArray):jd (dz s):=by
 intro c hc;obtain ⟨x,_,rfl⟩:=ap8.1 hc;have:=x.toNat_lt;omega
theorem jv (xs:List Int) (w:Int):idOk (dq (dt xs) w):=S5 (eZ _ _ (yb _)) (Km (Kl _) w)
section
variable {b:World} {F:List SP}
end


section
variable {b:World} {F:List SP}
end
theorem Oe {xs:List Int} (h:∀ x∈xs,(Lit.int .u8 x).wf=true):jd xs:=by
 intro x hx;have:=h x hx;simp [Lit.wf,IntKind.min,IntKind.max,IntKind.signed,IntKind.bits] at this;omega

theorem tF {α:Type} {f:α→Value}:∀ {ess:List (List Value)} {xs:List α},ess.length=xs.length→(∀ (i:Nat) e a,ess[i]? = some e→xs[i]? = some a→e = [f a])→ess.flatten=xs.map f
 | [], [], _, _ => rfl
 | [], _ :: _, h, _ => by simp at h
 | _ :: _, [], h, _ => by simp at h
 | e :: ess, a :: xs, h, hh => by
  rw [ar4,hh 0 e a Z rfl,tF (by simpa using h) fun i e a h1 h2=>hh (i+1) e a h1 h2];rfl
theorem Of {W:World} {v:Value} {k:IntKind} {x:Value × List Int} (h:rdL 1 (rdI k) W [v] x):VL (Value.int k) W v x.2∧∀ n∈x.2,(Lit.int k n).wf=true:=by
 obtain ⟨hv,ess,e1,e2,e3,e4⟩:=h;simp only [asa,atx] at hv;subst hv;have hf:=tF (f:=Value.int k) e1 fun i e a h1 h2=>(e4 i e a h1 h2).1
 rw [hf] at e3;refine ⟨e3,fun n hn=> ?_⟩;obtain ⟨i,hi,rfl⟩:=asu.1 hn;exact (e4 i _ _ (apv (by omega)) (apv hi)).2
def LB (W:World) (v:Value) (xss:List (List Int)):Prop:=∃ vs:List Value,vs.length=xss.length∧VL id W v vs∧∀ (i:Nat) u xs,vs[i]? = some u→xss[i]? = some xs→VL (Value.int .u8) W u xs∧jd xs
theorem Og {W:World} {v:Value} {x:Value × List (Value × List Int)} (h:rdL 1 (rdL 1 (rdI .u8)) W [v] x):LB W v (x.2.map (·.2)):=by
 obtain ⟨hv,ess,e1,e2,e3,e4⟩:=h;simp only [asa,atx] at hv;subst hv;have hf:ess.flatten=(x.2.map (·.1)).map id:=by
  rw [att];exact tF e1 fun i e a h1 h2=>(e4 i e a h1 h2).1
 rw [hf] at e3;refine ⟨x.2.map (·.1),by simp,?_,fun i u xs h1 h2=> ?_⟩
 ·unfold VL;rw [ap9];exact e3
 ·simp only [ar3,Option.map_eq_some_iff] at h1 h2;obtain ⟨a,ha,rfl⟩:=h1;obtain ⟨a',ha',rfl⟩:=h2;obtain rfl:a=a':=by rw [ha] at ha';exact arw ha'
  have hi:i<ess.length:=by rw [e1];exact (ap4.1 ha).1
  have:=e4 i _ a (apv hi) ha;have hu:ess[i] = [a.1]:=this.1;rw [hu] at this;obtain ⟨h3,h4⟩:=Of this;exact ⟨h3,Oe h4⟩
theorem LB.get {W:World} {v:Value} {xss:List (List Int)} (h:LB W v xss):∃ A c,v = .slice A xss.length c∧xss.length≤c∧c≤9223372036854775807∧∀ i (hi:i<xss.length),∃ bk off u,A=some ⟨bk,off,none⟩∧bk<W.heap.size∧W.cell? ⟨bk,off+i,none⟩=some u∧VL (Value.int .u8) W u xss[i]∧jd xss[i]:=by
 obtain ⟨vs,h1,h2,h3⟩:=h;obtain ⟨A,c,rfl,f1,f2,f3,f4⟩:=h2.op;refine ⟨A,c,by rw [h1],by omega,f2,fun i hi=> ?_⟩;obtain ⟨bk,off,g1,g2,g3⟩:=f4 i (by omega);refine ⟨bk,off,vs[i]'(by omega),g1,g2,g3 i (by omega),?_⟩;exact h3 i _ _ (apv (by omega)) (apv hi)
theorem Hy {b:World} {F:List SP} {bk off k:Nat} {u:Value} (hk:nth F k=some (Is b)) (hb:bk<b.heap.size) (hc:b.cell? ⟨bk,off,none⟩=some u):∀ w,Sat b F w→w.cell? ⟨bk,off,none⟩=some u:=fun w H=>by
 exact (H.is hk).cell hc
section
variable {b:World} {F:List SP} {v:Value} {xss:List (List Int)} {n m:Int}
theorem Cg (hl:LB b v xss) (hF:nth F 0=some (Is b)) (hn:I64 n) (hm:I64 m):SC Tryz.prog z5 [v,ii n,ii m] b F (fun u F'=>∃ r:Bool,(r=false→(xss.length:Int)≤n∧∀ xs∈xss,(xs.length:Int)≤m)∧u = .bool r∧F'=F):=by
 obtain ⟨A,c,rfl,f1,f2,f3⟩:=hl.get;refine ao Tryz.func5 Z Z Z <| anf <| ae Z <| ane <| ac <| anf <| ae Z <| ane <| ak <| d6 (S:=Nat) (fun i=> [(0,.slice A xss.length c),(1,ii n),(2,ii m),(7,ii i)]) (fun _=>F) (fun i=>i≤xss.length∧∀ k (hk:k<xss.length),k<i→(xss[k].length:Int)≤m) (fun i=>xss.length - i) 0 av ⟨aqc _,fun k _ h=>absurd h (Nat.not_lt_zero k)⟩ ?_;rintro i ⟨hi,hk⟩;refine ac <| anf ?_
 (iterate 5 refine ae Z ?_)
 by_cases h1:i<xss.length
 ·refine bn 12 (.bool true) Z (by simp;omega) ?_;refine apo Z Z Z <| ae Z <| ane ?_;refine cj Z (fun h2=> ?_) (fun h2=> ?_)
  ·obtain ⟨bk,off,u,rfl,g1,g2,g3,g4⟩:=f3 i h1;refine ah <| ab <| ac <| ak <| anf <| apn Z Z <| ay Z ?_;refine fc Z (fun w H=>bx Z Z Z (by rw [b5,aq8];exact Hy hF g1 g2 w H)) Z ?_;obtain ⟨A2,c2,rfl,q1,q2,q3,q4⟩:=g3.form;refine apo Z Z Z <| ane ?_;refine cj Z (fun h3=> ?_) (fun h3=> ?_)
   ·refine anf <| ae Z <| ane <| aj <| az <| al <| du <| az <| al <| bh Z Z av ?_;exact ⟨true,(fun h=>by cases h),rfl,rfl⟩
   ·refine ah <| bg <| ab <| aa <| ae Z <| ay Z <| ae Z <| ad ?_;refine i9 (i+1) av ⟨h1,fun k hk' hlt=> ?_⟩ (by first | omega | (dsimp only;omega));by_cases e:k=i
    ·subst e;omega
    ·exact hk k hk' (by omega)
  ·refine b8 <| aw <| ax <| aq <| ab <| anf ?_
   (iterate 5 refine ae Z ?_)
   refine ane <| aj <| bh Z Z av ?_;exact ⟨_,fun h=>by simp at h;omega,rfl,rfl⟩
 ·refine bn 12 (.bool false) Z (by simp;omega) ?_;refine apo Z Z Z <| ae Z <| ane <| ai Z <| b8 <| aw <| ax <| aq <| ab <| anf ?_
  (iterate 5 refine ae Z ?_)
  refine ane <| aj <| bh Z Z av ?_;refine ⟨_,fun h=>⟨by simpa using h,fun xs hx=> ?_⟩,rfl,rfl⟩;obtain ⟨k,hk',rfl⟩:=asu.1 hx;exact hk k hk' (by omega)
theorem fF {va vb:Value} {xs ys:List Int} (ha:∀ w,Sat b F w→VL (Value.int .u8) w va xs) (hb:∀ w,Sat b F w→VL (Value.int .u8) w vb ys) (hx:jd xs) (hy:jd ys) :
  SC Tryz.prog aB [va,vb] b F (fun v F'=>v = .bool (decide (xs=ys))∧F'=F):=by
 rw [← wT hx hy];refine ao Tryz.func13 Z Z Z <| anf <| ae Z <| aby <| ae Z <| qZ Z Z Z Z Z Z Z ha <| ae Z <| qZ Z Z Z Z Z Z Z hb <| apn Z Z <| ane <| aj <| bh Z Z (af 0 [] Z) ?_;exact ⟨rfl,rfl⟩
end

section
variable {b:World} {F:List SP} {va vb:Value} {xs ys:List Int} {id:List Int}
end


theorem yS:∀ x y:List UInt8,¬ Lib.compareBytes x y<0→¬ Lib.compareBytes y x<0→x=y
 | [], [] => by simp
 | [], _ :: _ => by simp [Lib.compareBytes]
 | _ :: _, [] => by simp [Lib.compareBytes]
 | a :: x, b :: y => by
  have ih:=yS x y;simp only [Lib.compareBytes,ati];intro h1 h2;by_cases h3:a.toNat<b.toNat
  ·rw [if_pos h3] at h1;omega
  ·by_cases h4:b.toNat<a.toNat
   ·rw [if_pos h4] at h2;omega
   ·rw [if_neg h3,if_neg h4] at h1;rw [if_neg h4,if_neg h3] at h2;have e:a=b:=UInt8.toNat_inj.1 (by omega);rw [e,ih h1 h2]
theorem Tk {x y:List Int} (hx:jd x) (hy:jd y) (h:u8l x=u8l y):x=y:=by
 induction x generalizing y with
 | nil => cases y with
  | nil => rfl
  | cons b y => simp [u8l] at h
 | cons a x ih => cases y with
  | nil => simp [u8l] at h
  | cons b y =>
   simp only [u8l,aqt,asa] at h;have h1:=hx a (by simp);have h2:=hy b (by simp);have h3:=ap2 UInt8.toNat h.1;simp only [UInt8.toNat_ofNat'] at h3;rw [ih (fun c hc=>hx c (by simp [hc])) (fun c hc=>hy c (by simp [hc])) h.2];congr 1;omega
theorem nI {a:List Int} (h:idOk a):jd a:=fun x hx=>(Zo x).1 (h.2 x hx)

abbrev dg (xs:List Int) (w:Int):List Int:=dq (dt xs) w
def Z7 (l:List Kp):Int:=(l.map fun e=>(e.b.length:Int)).sum
structure StI (w r u:Int) (l:List Kp):Prop where
 nd:(l.map (·.id)).Nodup
 ids:∀ e∈l,e.id=dg e.b w
 bw:∀ e∈l,jd e.b
 ln:∀ e∈l,e.b.length≤4100
 us:u=Z7 l
 ur:u≤r
theorem uz {a:List Int} {l:List Kp} {e:Kp} (h:eq a l=some e):e∈l∧e.id=a:=by
 obtain ⟨l1,l2,rfl,h2,_⟩:=Hv h;exact ⟨by simp,h2⟩
theorem jU {a:List Int} {l:List Kp} (h:eq a l=none):∀ e∈l,e.id≠a:=by
 induction l with
 | nil => simp
 | cons x l ih =>
  simp only [eq] at h
  split at h
  ·cases h
  ·rename_i hx
   intro e he;rcases ap1.1 he with rfl | he
   ·exact hx
   ·exact ih h e he
theorem lI {l:List Kp} (h:(l.map (·.id)).Nodup) {e:Kp} (he:e∈l):eq e.id l=some e:=by
 induction l with
 | nil => simp at he
 | cons x l ih =>
  simp only [aqt,asb] at h;rcases ap1.1 he with rfl | he
  ·rw [eq,if_pos rfl]
  ·rw [eq,if_neg (show ¬ x.id=e.id from fun e1=>h.1 (by rw [e1];exact asz he))];exact ih h.2 he
theorem u7 {a:List Int} {l:List Kp} {x:Kp}:eq a (l ++ [x])=match eq a l with | some e=>some e | none=>if x.id=a then some x else none:=by
 induction l with
 | nil => simp [eq]
 | cons y l ih =>
  simp only [aq2,eq]
  split
  ·rfl
  ·exact ih
theorem Ks {a c:List Int} {l:List Kp} (h:c≠a):eq c (fC a l)=eq c l:=by
 induction l with
 | nil => rfl
 | cons x l ih =>
  simp only [fC]
  split
  ·rename_i hx
   rw [eq,if_neg (fun e=>h (e.symm.trans hx))]
  ·simp only [eq]
   split
   ·rfl
   ·exact ih

section
variable {b:World} {F:List SP} {gs gm:Nat} {w r u:Int} {l:List Kp}
end

section
variable {b:World} {F:List SP} {gs gm:Nat} {w r u:Int} {l:List Kp}
end

def beB:Nat→Int→List Int
 | 0, _ => []
 | k + 1, n => (n / 256 ^ k % 256) :: beB k n
def be:List Int→Int→Int
 | [], a => a
 | x :: l, a => be l (a * 256 + x)
def fq (l:List Int):Prop:=∀ x∈l,0≤x∧x<256
theorem fq.app {a c:List Int} (h:fq a) (k:fq c):fq (a++c):=fun x hx=>(ap6.1 hx).elim (h x) (k x)
theorem fq.cons {a:Int} {c:List Int} (h:0≤a∧a<256) (k:fq c):fq (a::c):=fun x hx=>(ap1.1 hx).elim (fun e=>e▸h) (k x)
theorem fq.nil:fq []:=fun x hx=>by cases hx
theorem aY (k:Nat):(0:Int)<256 ^ k:=Int.pow_pos (by decide)
theorem Ch (k:Nat):(256:Int) ^ (k+1)=256 ^ k*256:=Int.pow_succ ..
theorem qC (k:Nat) (n:Int):(beB k n).length=k:=by induction k <;> simp [beB, *]
theorem Z8 (k:Nat) (n:Int):fq (beB k n):=by
 induction k with
 | zero => exact .nil
 | succ k ih => exact .cons ⟨by omega, by omega⟩ ih
theorem Oh (l:List Int) (a:Int):be l a=a*256 ^ l.length+be l 0:=by
 induction l generalizing a with
 | nil => simp [be]
 | cons x l ih =>
  simp only [be,ap3,Ch];rw [ih (a*256+x),ih (0*256+x),Int.add_mul,Int.mul_assoc,Int.mul_comm 256];simp;omega
theorem Xm {l:List Int} (h:fq l):0≤be l 0∧be l 0<256 ^ l.length:=by
 induction l with
 | nil => simp [be]
 | cons x l ih =>
  have hx:=h x aqe;have ih:=ih fun y hy=>h y (aqj _ hy)
  have hp:=aY l.length;simp only [be,ap3,Ch];rw [Oh l];simp only [Int.zero_mul,Int.zero_add];have h1:0≤x*256 ^ l.length:=Int.mul_nonneg hx.1 (by omega);have h2:x*256 ^ l.length≤255*256 ^ l.length:=Int.mul_le_mul_of_nonneg_right (by omega) (by omega);omega
theorem Tl (k:Nat) (n m:Int):beB k (n+m*256 ^ k)=beB k n:=by
 induction k generalizing m with
 | zero => rfl
 | succ k ih =>
  have hp:=aY k;simp only [beB,Ch];have e:m*(256 ^ k*256)=(m*256)*256 ^ k:=by rw [Int.mul_comm (256 ^ k),Int.mul_assoc]
  rw [e,ih,Int.add_mul_ediv_right _ _ (by omega)];congr 1;omega
theorem Z9 (k:Nat) (n:Int) (h0:0≤n) (h:n<256 ^ k):be (beB k n) 0=n:=by
 induction k generalizing n with
 | zero => simp [beB, be] at *; omega
 | succ k ih =>
  have hp:=aY k;have hd:=Int.emod_add_mul_ediv n (256 ^ k);have hm:=atw n (b:=256 ^ k) (by omega);have hm2:=ate n hp;have hq:n / 256 ^ k<256:=Int.ediv_lt_of_lt_mul hp (by rw [Int.mul_comm,← Ch];exact h);have hq0:0≤n / 256 ^ k:=Int.ediv_nonneg h0 (by omega);simp only [beB,be];rw [Oh,qC];have e:beB k n=beB k (n % 256 ^ k):=by
   conv=>lhs;rw [← hd,Int.mul_comm (256 ^ k)]
   exact Tl ..
  rw [e,ih _ hm hm2];have e2:(0*256+n / 256 ^ k % 256)=n / 256 ^ k:=by omega
  rw [e2,Int.mul_comm];omega

def kk:Nat→Nat→Int→Nat
 | 0, k, _ => k
 | m + 1, k, n => if n / 256 ^ k > 0 then kk m (k + 1) n else k
def nf (n:Int):Nat:=if n<192 then 0 else kk 7 1 n
theorem Xn (m k:Nat) (n:Int):k≤kk m k n∧kk m k n≤k+m:=by
 induction m generalizing k with
 | zero => simp [kk]
 | succ m ih =>
  simp only [kk];split
  ·have:=ih (k+1);omega
  ·omega
theorem alp (m k:Nat) (n:Int) (h0:0≤n) (h:n<256 ^ (k+m)):n<256 ^ kk m k n:=by
 induction m generalizing k with
 | zero => simpa [kk] using h
 | succ m ih =>
  simp only [kk];split
  ·exact ih (k+1) (by rw [show k+1+m=k+(m+1) by omega];exact h)
  ·rename_i hn
   have hp:=aY k;have hd:=Int.emod_add_mul_ediv n (256 ^ k);have hm2:=ate n hp;have h1:n / 256 ^ k=0:=by have:=Int.ediv_nonneg h0 (Int.le_of_lt hp);omega
   rw [h1] at hd;omega
theorem Ci {k j:Nat} (h:k≤j):(256:Int) ^ k≤256 ^ j:=by
 induction h with
 | refl => exact ato _
 | step _ ih => have := aY k; rw [Ch]; omega
theorem gM {n:Int} (h:192≤n):1≤nf n∧nf n≤8:=by
 have:=Xn 7 1 n;simp only [nf];rw [if_neg (by omega)];omega
theorem Oi (n:Int):nf n≤8:=by
 have:=Xn 7 1 n;simp only [nf];split <;> omega
theorem Oj {n:Int} (h:192≤n) (h2:n<9223372036854775808):n<256 ^ nf n:=by
 simp only [nf];rw [if_neg (by omega)];exact alp 7 1 n (by omega) (by omega)

def jn (n:Int):List Int:=if n<192 then [n % 256] else (191+(nf n:Int))::beB (nf n) n
theorem ou (n:Int):fq (jn n):=by
 unfold jn;split
 ·exact .cons ⟨by omega,by omega⟩ .nil
 ·have:=gM (n:=n) (by omega);exact .cons ⟨by omega,by omega⟩ (Z8 _ _)
theorem lJ (n:Int):(jn n).length=1+nf n:=by
 unfold jn;split
 ·simp [nf, *]
 ·simp [qC];omega
structure RS where
 at':Nat
 e:Int
 fa:Int
abbrev RS.fail (s:RS) (e:Int) (fa:Int):RS:=if s.e=0 then ⟨s.at',e,fa⟩ else s
def ia (B:List Int) (s:RS):Int × RS :=
 if s.e≠0 then (0,s)
 else if B.length≤s.at' then (0,⟨s.at',6,s.at'⟩)
 else
  let c:=B[s.at']?.getD 0
  let k:=(c - 191).toNat
  if c<192 then (c,⟨s.at'+1,0,s.fa⟩)
  else if 199<c then (0,⟨s.at',5,s.at'⟩)
  else if B.length<s.at'+1+k then (0,⟨s.at',6,s.at'⟩)
  else
   let n:=be ((B.drop (s.at'+1)).take k) 0
   if 9223372036854775808≤n∨nf n≠k then (0,⟨s.at',5,s.at'⟩)
   else (n,⟨s.at'+1+k,0,s.fa⟩)
def lk (B:List Int) (most:Int) (s:RS):Int × RS :=
 if s.e≠0 then (0,s) else ((ia B s).1,if most<(ia B s).1 then (ia B s).2.fail 4 s.at' else (ia B s).2)
def wa (B:List Int) (n:Int) (pl:Int) (s:RS):List Int × RS :=
 if s.e≠0 then ([],s)
 else if (B.length:Int) - s.at'<n then ([],⟨s.at',6,pl⟩)
 else ((B.drop s.at').take n.toNat,⟨s.at'+n.toNat,0,s.fa⟩)
def ng (B:List Int) (most:Int) (s:RS):List Int × RS:=wa B (lk B most s).1 s.at' (lk B most s).2
def rID (B:List Int) (s:RS):List Int × RS :=
 if s.e≠0 then (List.replicate 32 0,s)
 else if (B.length:Int) - s.at'<32 then (List.replicate 32 0,⟨s.at',6,s.at'⟩)
 else ((B.drop s.at').take 32,⟨s.at'+32,0,s.fa⟩)
def yT (B:List Int) (s:RS):(Int × Int) × RS :=
 let a:=ia B s
 let c:=ia B a.2
 (if c.2.e≠0 then (0,0) else (a.1,c.1),c.2)
def mj (B:List Int):Nat→RS→List Int × RS
 | 0, s => ([], s)
 | n + 1, s =>
  let a:=ia B s
  let c:=mj B n a.2
  (a.1::c.1,c.2)
def F6 (B:List Int) (most:Int) (s:RS):List Int × RS :=
 let a:=lk B most s
 let c:=mj B a.1.toNat a.2
 (if c.2.e≠0 then [] else c.1,c.2)
def fG (B:List Int) (s:RS):Int:=if s.e≠0 then 0 else B.length - s.at'
def tG (B:List Int) (s:RS):Int × Int:=if s.e=0∧s.at'<B.length then (4,s.at') else (s.e,s.fa)

section
variable {B:List Int} {s:RS}
theorem yf (h:s.e≠0):ia B s=(0,s):=by simp [ia,h]
theorem Cj (h:s.e≠0) (n:Nat):(mj B n s).2=s:=by
 induction n with
 | zero => rfl
 | succ n ih => simp only [mj, yf h]; exact ih
theorem wV (h:s.e≠0):rID B s=(List.replicate 32 0,s):=by simp [rID,h]
theorem wc (most:Int) (h:s.e≠0):lk B most s=(0,s):=by simp [lk,h]
theorem fH (n pl:Int) (h:s.e≠0):wa B n pl s=([],s):=by simp [wa,h]
theorem yU (most:Int) (h:s.e≠0):ng B most s=([],s):=by simp [ng,wc _ h,fH _ _ h]

structure Go1 {α:Type} (f:List Int→RS→α × RS):Prop where
 stuck:∀ B s,(f B s).2.e=0→s.e=0
 go:∀ B C s,(f B s).2.e=0→s.at'≤B.length→f (B++C) s=f B s∧(f B s).2.at'≤B.length∧s.at'≤(f B s).2.at'∧(f B s).2.fa=s.fa
theorem F7:Go1 ia where
 stuck B s h:=arx fun he=>absurd h (by rw [yf he];exact he)
 go B C s h hs:=by
  have he:s.e=0:=arx fun he=>absurd h (by rw [yf he];exact he)
  unfold ia at h ⊢;simp only [he,ne_eq,not_true,if_false] at h ⊢;by_cases h1:B.length≤s.at'
  ·rw [if_pos h1] at h;simp at h
  simp only [if_neg h1] at h ⊢;rw [if_neg (c:=(B++C).length≤_) (by rw [aps];omega)];have hc:(B++C)[s.at']? = B[s.at']?:=aq6 (by omega);rw [hc];generalize B[s.at']?.getD 0=c at h ⊢;by_cases h2:c<192
  ·simp only [if_pos h2] at h ⊢;exact ⟨trivial,by show s.at'+1≤_;omega,by show _≤s.at'+1;omega,trivial⟩
  simp only [if_neg h2] at h ⊢;by_cases h3:199<c
  ·simp [if_pos h3] at h
  simp only [if_neg h3] at h ⊢;by_cases h4:B.length<s.at'+1+(c - 191).toNat
  ·simp [if_pos h4] at h
  simp only [if_neg h4] at h ⊢;rw [if_neg (by rw [aps];omega)];have hd:((B++C).drop (s.at'+1)).take (c - 191).toNat=(B.drop (s.at'+1)).take (c - 191).toNat:=by
   rw [arm (by omega),aru (by simp;omega)]
  rw [hd];generalize be ((B.drop (s.at'+1)).take (c - 191).toNat) 0=n at h ⊢;by_cases h5:9223372036854775808≤n∨nf n≠(c - 191).toNat
  ·simp [if_pos h5] at h
  simp only [if_neg h5];exact ⟨trivial,by show s.at'+1+_≤_;omega,by show _≤s.at'+1+_;omega,trivial⟩
theorem Hz (most:Int):Go1 (fun B s=>lk B most s) where
 stuck B s h:=arx fun he=>absurd h (by show (lk B most s).2.e≠0;rw [wc most he];exact he)
 go B C s h hs:=by
  have he:s.e=0:=arx fun he=>absurd h (by show (lk B most s).2.e≠0;rw [wc most he];exact he)
  unfold lk at h ⊢;simp only [he,ne_eq,not_true,if_false] at h ⊢;have h1:(ia B s).2.e=0:=arx fun h1=>absurd h (by split <;> simp [h1])
  obtain ⟨h3,h4,h5,h6⟩:=F7.go B C s h1 hs;rw [h3];by_cases h7:most<(ia B s).1
  ·rw [if_pos h7] at h;simp [RS.fail,h1] at h
  ·rw [if_neg h7];exact ⟨rfl,h4,h5,h6⟩
theorem alq:Go1 rID where
 stuck B s h:=arx fun he=>absurd h (by rw [wV he];exact he)
 go B C s h hs:=by
  have he:s.e=0:=arx fun he=>absurd h (by rw [wV he];exact he)
  unfold rID at h ⊢;simp only [he,ne_eq,not_true,if_false] at h ⊢;by_cases h1:(B.length:Int) - s.at'<32
  ·simp [if_pos h1] at h
  simp only [if_neg h1];rw [if_neg (by rw [aps];omega)];refine ⟨?_,by show s.at'+_≤_;omega,by show _≤s.at'+_;omega,trivial⟩;rw [arm (by omega),aru (by simp;omega)]
def At (B:List Int) (i:Nat) (l:List Int):Prop:=∃ D,B.drop i=l++D
theorem At.app {i:Nat} {l m:List Int} (h:At B i (l++m)):At B i l∧At B (i+l.length) m:=by
 obtain ⟨D,h⟩:=h;refine ⟨⟨m++D,by rw [h,ap0]⟩,D,?_⟩;rw [← atz,h,ap0,List.drop_left]
theorem At.len {i:Nat} {l:List Int} (h:At B i l) (hl:0<l.length):i+l.length≤B.length:=by
 obtain ⟨D,h⟩:=h;have:=ap2 List.length h;simp at this;omega
theorem At.tk {i:Nat} {l:List Int} (h:At B i l):(B.drop i).take l.length=l:=by
 obtain ⟨D,h⟩:=h;rw [h,aty]
theorem At.hd {i:Nat} {x:Int} {l:List Int} (h:At B i (x::l)):B[i]? = some x:=by
 obtain ⟨D,h⟩:=h;have:=ap2 (fun l=>l[0]?) h;simpa using this
theorem nJ {i:Nat} {n fa:Int} (h:At B i (jn n)) (h0:0≤n) (h1:n<9223372036854775808):ia B ⟨i,0,fa⟩=(n,⟨i+(jn n).length,0,fa⟩):=by
 have hl:=h.len (by rw [lJ];omega);rw [lJ] at hl ⊢;unfold ia;rw [if_neg (by simp),if_neg (by show ¬ B.length≤i;omega)];unfold jn at h;by_cases h2:n<192
 ·rw [if_pos h2] at h;have e:n % 256=n:=by omega
  simp only [h.hd,as2,e,if_pos h2];simp [nf,h2]
 ·rw [if_neg h2] at h;have hs:=gM (n:=n) (by omega);have hlt:=Oj (by omega) h1;have ha:At B (i+1) (beB (nf n) n):=(At.app (l:= [_]) h).2;have hk:(191+(nf n:Int) - 191).toNat=nf n:=by omega
  simp only [h.hd,as2];rw [if_neg (by omega),if_neg (by omega)];simp only [hk];rw [if_neg (by omega)];have ht:=ha.tk;rw [qC] at ht;simp only [ht,Z9 _ _ h0 hlt];rw [if_neg (by simp;omega)];simp [ar9]
theorem Tn {i:Nat} {n most fa:Int} (h:At B i (jn n)) (h0:0≤n) (h1:n<9223372036854775808) (hm:n≤most):lk B most ⟨i,0,fa⟩=(n,⟨i+(jn n).length,0,fa⟩):=by
 simp only [lk,nJ h h0 h1];rw [if_neg (by simp),if_neg (by omega)]
theorem Ck {i:Nat} {l:List Int} {most fa:Int} (h:At B i (jn l.length++l)) (hl:l.length<9223372036854775808) (hm:l.length≤most) :
  ng B most ⟨i,0,fa⟩=(l,⟨i+(jn l.length++l).length,0,fa⟩):=by
 obtain ⟨ha,hb⟩:=h.app;have hpos:0<(jn (l.length:Int)).length:=by rw [lJ];omega
 have hl2:=ha.len hpos;have hl3:i+(jn (l.length:Int)).length+l.length≤B.length:=by
  rcases aq4 l.length with h0 | h0
  ·omega
  ·exact hb.len h0
 simp only [ng,Tn ha (by omega) (by omega) hm,wa];rw [if_neg (by simp),if_neg (by omega),apu,hb.tk];simp [ar9]
theorem alr {i:Nat} {l:List Int} {fa:Int} (h:At B i l) (hl:l.length=32):rID B ⟨i,0,fa⟩=(l,⟨i+32,0,fa⟩):=by
 have h2:=h.len (by omega);have:=h.tk;rw [hl] at this h2;simp only [rID];rw [if_neg (by simp),if_neg (by omega),this]
end

theorem als (x:Int) {k:Nat} (hk:k≤8):x.fdiv (2 ^ min (8*(k:Int)).toNat IntKind.i64.bits)=x / 256 ^ k:=by
 have e:min (8*(k:Int)).toNat IntKind.i64.bits=8*k:=by show min _ 64=_;omega
 have e2:((2:Int) ^ (8*k))=256 ^ k:=by rw [Int.pow_mul];rfl
 rw [e,e2,as1 _ (Int.le_of_lt (aY k))]
theorem u8w (y:Int):IntKind.u8.wrap y=y % 256:=by simp [IntKind.wrap,IntKind.signed,IntKind.bits]
theorem Ok {k j:Nat} (n:Int) (h:j<k):(beB k n).take (j+1)=(beB k n).take j ++ [n / 256 ^ (k - 1 - j) % 256]:=by
 induction k generalizing j with
 | zero => omega
 | succ k ih =>
  cases j with
  | zero => simp [beB]
  | succ j =>
   simp only [beB,List.take_succ_cons,aq2];rw [ih (by omega),show k - 1 - j=k+1 - 1 - (j+1) by omega]
section
variable {b:World} {F:List SP}
theorem H6 {x:Int}:SC Tryz.prog Br [ii x] b F (fun v F'=>v=ii (nf x:Nat)∧F'=F):=by
 refine ao Tryz.func242 Z Z Z <| anf <| ae Z <| ane <| ac <| anf <| apn Z Z <| ane ?_;refine cj Z (fun h=> ?_) (fun h=> ?_)
 ·refine anf <| ae Z <| ane <| aj <| al <| bh Z Z av ?_;exact ⟨ap2 (Value.int .i64) (by simp [nf,h]),rfl⟩
 refine ah <| ab <| anf <| ae Z <| ane <| ac <| ak ?_;refine d6 (S:=Nat) (fun k=> [(0,ii x),(3,ii k)]) (fun _=>F) (fun k=>1≤k∧k≤8∧kk (8 - k) k x=kk 7 1 x) (fun k=>8 - k) 1 av ⟨by omega,by omega,rfl⟩ ?_;rintro k ⟨hk1,hk8,hk⟩;have hs:nf x=kk 7 1 x:=by simp [nf,h]
 generalize kk 7 1 x=m at hk hs;refine ac <| anf <| apo Z Z Z ?_;refine ni 8 Z (fun h1=> ?_) (fun h1=> ?_)
 ·have h1':k<8:=by omega
  rw [show 8 - k=(8 - (k+1))+1 by omega] at hk;simp only [kk] at hk;refine apn Z Z <| ay Z <| ay Z <| apn Z Z <| ane ?_;refine cj Z (fun h2=> ?_) (fun h2=> ?_) <;> rw [als x hk8] at h2
  ·rw [if_pos h2] at hk;refine ah <| ab <| ak <| aa <| ae Z <| ay Z <| ae Z <| ad <| bg ?_;rw [show (k:Int)+1=((k+1:Nat):Int) by omega];exact dj (k+1) av ⟨by omega,by omega,hk⟩
  ·rw [if_neg h2] at hk;refine b8 <| aw <| ax <| aq <| ab <| anf <| apn Z Z <| ane <| aj <| bh Z Z av ?_;exact ⟨ap2 (Value.int .i64) (by rw [hs,← hk]),rfl⟩
 ·obtain rfl:k=8:=by omega
  (iterate 6 refine ae Z ?_)
  refine ane <| ai Z <| b8 <| aw <| ax <| aq <| ab <| anf <| apn Z Z <| ane <| aj <| bh Z Z av ?_;exact ⟨ap2 (Value.int .i64) (by rw [hs,← hk];rfl),rfl⟩
theorem lK {v:Value} {bs:List Int} {x:Int} (hx:I64 x) (hl:bs.length≤60000000):SC Tryz.prog pb [v,.iface fp (ii x)] b (rB v bs::F) (fun u F'=>∃ r,u = .tuple ⟨[r,.bool (decide (0≤x))]⟩∧F'=rB r (bs++jn x)::F):=by
 refine ao Tryz.func185 Z Z Z <| anf <| apn Z Z <| ane <| ac <| anf <| ae Z <| ane <| ak <| anf <| od Z Z Z Z Z Z Z <| apn Z Z <| ane <| ar Z <| anf <| ae Z <| aby <| ae Z <| au Z Z Z (H6) <| ae Z <| ane <| ac <| anf <| apn Z Z <| ane ?_;refine cj Z (fun h=> ?_) (fun h=> ?_)
 ·have h1:x<192:=by
   by_cases h1:x<192
   ·exact h1
   ·have:=gM (n:=x) (by omega);omega
  refine anf <| apo Z Z Z <| bn 27 (.int .u8 (x % 256)) Z (ap2 (Value.int .u8) (u8w x)) <| lp [.int .u8 (x % 256)] Z Z Z Z Z Z Z Z Z fun gl=> ?_;refine ef 1 Z Z Z Z Z Z Z Z Z (vl1 (l:= [x % 256]) (k:=0) Z (by decide) Z) (ec [x % 256]) (by simp;omega) (fun _=>rfl) fun r=> ?_;refine eg ((td (l:=bs++jn x) 1 Z (by simp [jn,h1]) (by simp [jn,h1]) Z).trans (af 2 [1] Z)) ?_;refine apo Z Z Z <| ae Z <| ane <| aj <| al <| az <| al <| fb Z Z Z av ?_;exact ⟨r,rfl,rfl⟩
 have h1:192≤x:=by
  by_cases h1:x<192
  ·exact absurd (show (nf x:Int)=0 by simp [nf,h1]) h
  ·omega
 have hp:=gM h1;have hN:jn x=(191+(nf x:Int))::beB (nf x) x:=by unfold jn;rw [if_neg (by omega)]
 generalize nf x=k at hp hN ⊢;refine ah <| ab <| anf <| apn Z Z <| ay Z <| ae Z ?_;refine bn 35 (.int .u8 (191+(k:Int))) Z (ap2 (Value.int .u8) (by rw [u8w];omega)) ?_;refine lp [.int .u8 (191+(k:Int))] Z Z Z Z Z Z Z Z Z fun gl=> ?_;refine ef 1 Z Z Z Z Z Z Z Z Z (vl1 (l:= [191+(k:Int)]) (k:=0) Z (by decide) Z) (ec [191+(k:Int)]) (by simp;omega) (fun _=>rfl) fun r=> ?_;refine eg ((td (l:=bs ++ [191+(k:Int)]) 1 Z (by simp) (by simp) Z).trans (af 2 [1] Z)) ?_;refine ae Z <| ane <| ac <| anf <| apn Z Z <| ane <| ak ?_;refine d6 (S:=Nat × Value) (fun s=> [(0,s.2),(6,ii x),(7,ii k),(38,ii k),(39,ii s.1)]) (fun s=>rB s.2 (bs ++ [191+(k:Int)]++(beB k x).take s.1)::F) (fun s=>s.1≤k) (fun s=>k - s.1) (0,r) (by simp only [ar1,aqg];exact Ent.refl _) (aqc _) ?_;rintro ⟨i,r⟩ hi;dsimp only at hi ⊢;have hbl:=qC k x;refine anf <| ae Z <| ane <| ac ?_;refine cj Z (fun h2=> ?_) (fun h2=> ?_)
 ·have h2':i<k:=by omega
  refine ah <| ab <| ac <| ak <| anf <| apn Z Z <| ane <| aa <| apo Z Z Z <| ay Z <| ae Z <| ay Z <| ay Z <| ay Z <| ae Z ?_;have e:x.fdiv (2 ^ min (8*((k:Int) - 1 - (i:Int))).toNat IntKind.i64.bits)=x / 256 ^ (k - 1 - i):=by
   rw [show (k:Int) - 1 - (i:Int)=((k - 1 - i:Nat):Int) by omega];exact als x (by omega)
  refine bn 50 (.int .u8 (x / 256 ^ (k - 1 - i) % 256)) Z (ap2 (Value.int .u8) (by rw [e,u8w])) ?_;refine lp [.int .u8 (x / 256 ^ (k - 1 - i) % 256)] Z Z Z Z Z Z Z Z Z fun gl=> ?_;refine ef 1 Z Z Z Z Z Z Z Z Z (vl1 (l:= [x / 256 ^ (k - 1 - i) % 256]) (k:=0) Z (by decide) Z) (ec [x / 256 ^ (k - 1 - i) % 256]) (by simp [hbl];omega) (fun _=>rfl) fun r=> ?_;refine eg ((td (l:=bs ++ [191+(k:Int)]++(beB k x).take (i+1)) 1 Z (by simp [hbl];omega) (by rw [Ok x h2',← List.append_assoc];simp) Z).trans (af 2 [1] Z)) ?_;refine ae Z <| ad <| bg <| ab <| aa <| ay Z <| ae Z <| ad ?_;rw [show (i:Int)+1=((i+1:Nat):Int) by omega];exact dj (i+1,r) av h2'
 ·obtain rfl:i=k:=by omega
  refine b8 <| aw <| ax <| aq <| ab <| anf <| apo Z Z Z <| ane <| aj <| az <| al <| fb Z Z Z av ?_;refine ⟨r,?_,?_⟩
  ·rw [ap5 (show 0≤x by omega)];rfl
  ·rw [hN,aqh (by omega)];simp
end

theorem pg (s:ByteArray):strOfNums (dz s)=s:=by
 apply ByteArray.ext;apply ast;simp only [strOfNums,dz,att]
 conv=>rhs;rw [← List.map_id s.data.toList]
 apply List.map_congr_left;intro c _;simp
structure WS where
 b:List Int
 e:Int
def me (lim:Int) (p:Bool × List Int) (s:WS):WS :=
 if s.e≠0 then s else if p.1=false then ⟨s.b,3⟩ else if lim<s.b.length+p.2.length then ⟨s.b,4⟩ else ⟨s.b++p.2,0⟩
def ml (lim:Int):List (Bool × List Int)→WS→WS
 | [], s => s
 | p :: l, s => ml lim l (me lim p s)
def aZ (s:WS):List Int × Int:=if s.e≠0 then ([],s.e) else (s.b,0)
theorem xj (lim:Int) (l m:List (Bool × List Int)) (s:WS):ml lim (l++m) s=ml lim m (ml lim l s):=by
 induction l generalizing s with
 | nil => rfl
 | cons p l ih => exact ih _
theorem To {lim:Int} {p:Bool × List Int} {s:WS} (h:(me lim p s).e=0):s.e=0∧p.1=true∧me lim p s=⟨s.b++p.2,0⟩∧((s.b++p.2).length:Int)≤lim:=by
 unfold me at h ⊢;by_cases h1:s.e≠0
 ·rw [if_pos h1] at h;exact absurd h h1
 rw [if_neg h1] at h ⊢;by_cases h2:p.1=false
 ·rw [if_pos h2] at h;simp at h
 rw [if_neg h2] at h ⊢;by_cases h3:lim<s.b.length+p.2.length
 ·rw [if_pos h3] at h;simp at h
 rw [if_neg h3];exact ⟨by simpa using h1,by simpa using h2,rfl,by simp;omega⟩
theorem Ol {lim:Int} {l:List (Bool × List Int)} {s:WS} (h:(ml lim l s).e=0) (hs:(s.b.length:Int)≤lim):s.e=0∧(∀ p∈l,p.1=true)∧ml lim l s=⟨s.b++(l.map Prod.snd).flatten,0⟩∧((s.b++(l.map Prod.snd).flatten).length:Int)≤lim:=by
 induction l generalizing s with
 | nil => obtain ⟨b, e⟩ := s; simp only [ml] at h; subst h; exact ⟨rfl, fun p hp => (by cases hp), (by simp [ml]), (by simpa using hs)⟩
 | cons p l ih =>
  simp only [ml] at h ⊢;have h1:(me lim p s).e=0:=by
   refine arx fun hne=> ?_;have key:∀ (l:List (Bool × List Int)) (t:WS),t.e≠0→(ml lim l t).e≠0:=by
    intro l;induction l with
    | nil => exact fun _ h => h
    | cons q l ih => intro t ht; exact ih _ (by simp only [me, if_pos ht]; exact ht)
   exact key l _ hne h
  obtain ⟨h2,h3,h4,h5⟩:=To h1;rw [h4] at h ⊢;obtain ⟨_,k2,k3,k4⟩:=ih h h5;exact ⟨h2,fun q hq=>(ap1.1 hq).elim (fun e=>e▸h3) (k2 q),by rw [k3];simp,by simpa using k4⟩
theorem Kt {lim:Int} {l:List (Bool × List Int)} {s:WS} (h:∀ p∈l,p.1=true) (he:s.e=0) (hl:((s.b++(l.map Prod.snd).flatten).length:Int)≤lim):(ml lim l s).e=0:=by
 induction l generalizing s with
 | nil => exact he
 | cons p l ih =>
  have hp:me lim p s=⟨s.b++p.2,0⟩:=by
   unfold me;rw [if_neg (by simpa using he),if_neg (by rw [h p aqe];simp),if_neg (by simp at hl;omega)]
  simp only [ml,hp];exact ih (fun q hq=>h q (aqj _ hq)) Z (by simpa using hl)

def mm (n:Int):Bool × List Int:=(decide (0≤n),jn n)
def pM (r n:Int):Bool × List Int:=(decide (0≤r)&&decide (0≤n),jn r++jn n)
def pO (l:List Int):Bool × List Int:=(l.all fun n=>decide (0≤n),jn l.length++(l.map jn).flatten)
def ny (l:List Int):Bool × List Int:=(true,jn l.length++l)
def pID (l:List Int):Bool × List Int:=(true,l)
abbrev r0:RS:=⟨0,0,0⟩

section
variable {b:World} {F:List SP}
theorem wW {v:Value} {bs:List Int} {n:Nat} (hn:n≤1000000000) (hl:bs.length≤60000000):SC Tryz.prog pb [v,.iface fp (ii n)] b (rB v bs::F) (fun u F'=>∃ r,u = .tuple ⟨[r,.bool true]⟩∧F'=rB r (bs++jn n)::F) :=
 (lK (x:=n) ⟨by omega,by omega⟩ hl).mono fun _ _ ⟨r,h1,h2⟩=>⟨r,by rw [h1,ap5 (by omega)],h2⟩
theorem kp (n:Int):(jn n).length≤9:=by rw [lJ];have:=Oi n;omega
theorem Tp {v:Value} {bs:List Int} {s:ByteArray} (hs:s.size≤1000000) (hl:bs.length≤50000000):SC Tryz.prog pb [v,.iface ko (.string s)] b (rB v bs::F) (fun u F'=>∃ r,u = .tuple ⟨[r,.bool true]⟩∧F'=rB r (bs++(jn s.size++dz s))::F):=by
 have hn9:=kp s.size;have hsz:=lz s;refine ao Tryz.func185 Z Z Z <| anf <| apn Z Z <| ane <| ac <| anf <| ae Z <| ane <| ak <| anf <| od Z Z Z Z Z Z Z <| apn Z Z <| ane <| ai Z <| anf <| od Z Z Z Z Z Z Z <| apn Z Z <| ane <| ar Z <| anf <| ae Z <| aby <| apo Z Z Z <| ae Z <| am Z Z Z (wW (n:=s.size) (by omega) (by omega)) ?_;rintro _ _ ⟨r,rfl,rfl⟩;refine apo Z Z Z <| ae Z <| aby <| apn Z Z ?_;refine J9 0 Z Z Z Z Z Z Z Z Z Z Z (by simp;omega) (fun _=>rfl) fun r'=> ?_;refine eg (td (l:=bs++(jn s.size++dz s)) 0 Z (by simp [hsz];omega) (by simp [rP]) Z) ?_;refine apn Z Z <| ane <| aj <| az <| al <| fb Z Z Z av ?_;exact ⟨r',rfl,rfl⟩
theorem Om {v:Value} {bs l:List Int} (h:l.length=32) (hl:bs.length≤50000000):SC Tryz.prog pb [v,.iface t_api_ID (idV l)] b (rB v bs::F) (fun u F'=>∃ r,u = .tuple ⟨[r,.bool true]⟩∧F'=rB r (bs++l)::F):=by
 refine ao Tryz.func185 Z Z Z <| anf <| apn Z Z <| ane <| ac <| anf <| ae Z <| ane <| ak <| anf <| od Z Z Z Z Z Z Z <| apn Z Z <| ane <| ai Z <| anf <| od Z Z Z Z Z Z Z <| apn Z Z <| ane <| ai Z <| anf <| od Z Z Z Z Z Z Z <| apn Z Z <| ane <| ai Z <| anf <| od Z Z Z Z Z Z Z <| apn Z Z <| ane <| ar Z <| anf <| bq Z Z Z Z Z fun g=> ?_;refine eh 0 Z Z Z Z Z Z Z (by rw [bz,h];rfl) (ec _) (by simp [h]) ?_;refine aby <| ae Z <| ay Z <| ef 1 Z Z Z Z Z Z Z Z Z (vl1 (l:=l) (k:=0) h.symm (by decide) Z) (ec l) (by omega) (fun _=>rfl) fun r=> ?_;refine eg ((td (l:=bs++l) 1 Z (by simp [h]) (by simp) Z).trans (af 2 [1] Z)) ?_;refine apn Z Z <| ane <| aj <| az <| al <| fb Z Z Z av ?_;exact ⟨r,rfl,rfl⟩
theorem Tq {v:Value} {bs:List Int} {r n:Int} (hr:I64 r) (hn:I64 n) (hl:bs.length≤50000000):SC Tryz.prog pb [v,.iface t_api_Dot (qn r n)] b (rB v bs::F) (fun u F'=>∃ x,u = .tuple ⟨[x,.bool (pM r n).1]⟩∧F'=rB x (bs++(pM r n).2)::F):=by
 have hr9:=kp r;refine ao Tryz.func185 Z Z Z <| anf <| apn Z Z <| ane <| ac <| anf <| ae Z <| ane <| ak <| anf <| od Z Z Z Z Z Z Z <| apn Z Z <| ane <| ai Z <| anf <| od Z Z Z Z Z Z Z <| apn Z Z <| ane <| ai Z <| anf <| od Z Z Z Z Z Z Z <| apn Z Z <| ane <| ai Z <| anf <| od Z Z Z Z Z Z Z <| apn Z Z <| ane <| ai Z <| anf <| od Z Z Z Z Z Z Z <| apn Z Z <| ane <| ar Z <| anf <| bq Z Z Z Z Z fun g=>cg 0 Z Z Z Z <| ane ?_
 refine anf <| apn Z Z <| ba 0 Z Z Z <| ae Z <| am Z Z Z ((lK (F:=pt g t_api_Dot [ii r,ii n]::F) (v:=v) (bs:=bs) hr (by omega)).ent (af 2 [1,0] Z)) ?_;rintro _ _ ⟨x,rfl,rfl⟩;refine apo Z Z Z <| ae Z <| aby <| apn Z Z <| ba 1 Z Z Z <| ae Z ?_;refine am Z Z Z (lK hn (by simp;omega)) ?_;rintro _ _ ⟨y,rfl,rfl⟩;refine apo Z Z Z <| ae Z <| ane <| ac <| cq flo _ (by decide +kernel) av <| bj Z Zl <| bj Z Zl <| cd 1 Z Z Z Z <| bj Z Zl <| bj Z Zl ?_;refine ab0 112 Z (fun h1=> ?_) (fun h1=> ?_)
 ·refine bj Z Zl <| cd 1 Z Z Z Z <| bj Z Zl <| bj Z Zl <| bj Z Zl <| bj Z Zl <| ap <| ab <| aj <| az <| al <| fb Z Z Z (af 2 [0] Z) ?_;exact ⟨y,by simp [pM,h1];rfl,by simp [pM]⟩
 ·(iterate 6 refine bj Z Zl ?_)
  refine ap <| ab <| aj <| az <| al <| fb Z Z Z (af 2 [0] Z) ?_;exact ⟨y,by simp [pM,h1];rfl,by simp [pM]⟩
end

section
variable {b:World} {F:List SP}
theorem alt {fn:Nat} [Bodied Tryz.prog fn] {va:Value} {xs:List Int} {q:Int→Bool} (hq:∀ x∈xs,SC Tryz.prog fn [ii x] b F (fun v F'=>v = .bool (q x)∧F'=F)) (ha:∀ w,Sat b F w→VL (Value.int .i64) w va xs) (hn:xs.length≤10000000) :
  SC Tryz.prog vz [va,.func (.func fn) ⟨[]⟩ ⟨[]⟩] b F (fun v F'=>(∃ i:Int,v=ii i∧decide (0≤i)=xs.any q)∧F'=F):=by
 refine ao Tryz.func295 Z Z Z <| bu (fun w H=>(ha w H).form) ?_;rintro ⟨A,c,rfl,h1,h2,h3,h4⟩;refine anf <| ae Z <| ane <| ac <| anf <| apo Z Z Z <| ane <| ak <| d6 (S:=Nat) (fun i=> [(0,.slice A xs.length c),(1,.func (.func fn) ⟨[]⟩ ⟨[]⟩),(7,ii xs.length),(8,ii i)]) (fun _=>F) (fun i=>i≤xs.length∧(xs.take i).any q=false) (fun i=>xs.length - i) 0 av ⟨aqc _,rfl⟩ ?_;rintro i ⟨hi,hk⟩;refine anf <| ae Z <| ane <| ac ?_;refine cj Z (fun h=> ?_) (fun h=> ?_)
 ·have h':i<xs.length:=by omega
  obtain ⟨bk,off,rfl⟩:=h4 (by omega);refine ah <| ab <| ac <| ak <| anf <| apn Z Z <| aby <| apo Z Z Z <| ay Z ?_;refine fc Z (fun w H=>bx Z Z Z (by rw [b5];simpa using VL.at (ha w H) i h')) Z ?_;refine au Z Z Z (hq _ (apw h')) ?_;cases hx:q xs[i] with
  | true =>
   refine ane <| ar Z <| anf <| apn Z Z <| ane <| aj <| az <| al <| du <| az <| al <| bh Z Z av <| ⟨⟨i,rfl,?_⟩,rfl⟩;rw [ap5 (by omega)];exact (List.any_eq_true.2 ⟨_,apw h',hx⟩).symm
  | false =>
   refine ane <| ai Z <| ah <| bg <| ab <| aa <| ay Z <| ae Z <| ad <| dj (i+1) av ⟨h',?_⟩;rw [apz h',List.any_append,hk];simp [hx]
 ·refine b8 <| aw <| ax <| aq <| ab <| anf <| ae Z <| ane <| aj <| bh Z Z av <| ⟨⟨-1,rfl,?_⟩,rfl⟩;rw [aqh (by omega)] at hk;rw [hk];rfl
theorem aaa {fn:Nat} [Bodied Tryz.prog fn] {va:Value} {xs:List Int} {q:Int→Bool} (hq:∀ x∈xs,SC Tryz.prog fn [ii x] b F (fun v F'=>v = .bool (q x)∧F'=F)) (ha:∀ w,Sat b F w→VL (Value.int .i64) w va xs) (hn:xs.length≤10000000) :
  SC Tryz.prog tb [va,.func (.func fn) ⟨[]⟩ ⟨[]⟩] b F (fun v F'=>v = .bool (xs.any q)∧F'=F):=by
 refine ao Tryz.func254 Z Z Z <| anf <| ae Z <| aby <| apn Z Z <| am Z Z Z (alt hq ha hn) ?_;rintro _ _ ⟨⟨i,rfl,hi⟩,rfl⟩;refine apn Z Z <| ane <| aj <| bh Z Z av ?_;exact ⟨ap2 Value.bool hi,rfl⟩
theorem Tr {x:Int}:SC Tryz.prog vL [ii x] b F (fun v F'=>v = .bool (decide (x<0))∧F'=F):=by
 refine ao Tryz.func255 Z Z Z <| anf <| ae Z <| aby <| apo Z Z Z <| ane <| aj <| bh Z Z av ?_;exact ⟨rfl,rfl⟩
theorem Xo (l:List Int):((l.map jn).flatten).length≤9*l.length:=by
 induction l with
 | nil => simp
 | cons x l ih =>
  have h1:=kp x;simp only [aqt,ar4,aps,ap3];omega
theorem Ts {v vx:Value} {bs xs:List Int} (ha:∀ w,Sat b F w→VL (Value.int .i64) w vx xs) (hx:∀ x∈xs,I64 x) (hn:xs.length≤1000000) (hl:bs.length≤20000000):SC Tryz.prog pb [v,.iface iq vx] b (rB v bs::F) (fun u F'=>∃ r,u = .tuple ⟨[r,.bool (pO xs).1]⟩∧F'=rB r (bs++(pO xs).2)::F):=by
 have hn9:=kp xs.length;refine ao Tryz.func185 Z Z Z <| bu (fun w H=>((up ha (af 1 [] Z)) w H).form) ?_;rintro ⟨A,c,rfl,h1,h2,h3,h4⟩;refine anf <| apn Z Z <| ane <| ac <| anf <| ae Z <| ane <| ak <| anf <| od Z Z Z Z Z Z Z <| apn Z Z <| ane <| ai Z <| anf <| od Z Z Z Z Z Z Z <| apn Z Z <| ane <| ai Z <| anf <| od Z Z Z Z Z Z Z <| apn Z Z <| ane <| ai Z <| anf <| od Z Z Z Z Z Z Z <| apn Z Z <| ane <| ai Z <| anf <| od Z Z Z Z Z Z Z <| apn Z Z <| ane <| ai Z <| anf <| od Z Z Z Z Z Z Z <| apn Z Z <| ane ?_;refine ar Z <| anf <| ae Z <| aby <| apo Z Z Z <| ae Z <| am Z Z Z (wW (n:=xs.length) (by omega) (by omega)) ?_;rintro _ _ ⟨r,rfl,rfl⟩;refine apo Z Z Z <| ae Z <| ane <| ac <| anf <| apo Z Z Z <| ane <| ak ?_;refine d6 (S:=Nat × Value) (fun s=> [(0,s.2),(13,.slice A xs.length c),(128,.slice A xs.length c),(129,ii xs.length),(130,ii s.1)]) (fun s=>rB s.2 (bs++jn xs.length++((xs.take s.1).map jn).flatten)::F) (fun s=>s.1≤xs.length) (fun s=>xs.length - s.1) (0,r) (by simp only [ar1,as9,atc,aqg];exact Ent.refl _) (aqc _) ?_;rintro ⟨i,r⟩ hi;dsimp only at hi ⊢;have hf9:=Xo (xs.take i);rw [ap7] at hf9;refine anf <| ae Z <| ane <| ac ?_;refine cj Z (fun h=> ?_) (fun h=> ?_)
 ·have h':i<xs.length:=by omega
  obtain ⟨bk,off,rfl⟩:=h4 (by omega);refine ah <| ab <| ac <| ak <| anf <| ay Z ?_;refine fc Z (fun w H=>bx Z Z Z (by rw [b5];simpa using VL.at ((up ha (af 1 [] Z)) w H) i h')) Z ?_;refine ae Z <| ane <| aa <| apo Z Z Z ?_;refine am Z Z Z (lK (hx _ (apw h')) (by simp only [aps];omega)) ?_;rintro _ _ ⟨r2,rfl,rfl⟩;refine apo Z Z Z <| ae Z <| ad <| bg <| ab <| aa <| ay Z <| ae Z <| ad <| dj (i+1,r2) ?_ h';rw [apz h',aqa,asy,aqt,as9,ar4,atc,aqg,← ap0];exact Ent.refl _
 obtain rfl:i=xs.length:=by omega
 rw [aqk];refine b8 <| aw <| ax <| aq <| ab <| anf <| apn Z Z <| au Z Z Z (aaa (q:=fun x=>decide (x<0)) (fun _ _=>Tr) (up ha (af 1 [] Z)) (by omega)) <| apo Z Z Z <| ane <| aj <| az <| al <| fb Z Z Z av ?_;refine ⟨r,?_,by simp [pO]⟩;have e:(!xs.any fun x=>decide (x<0))=(pO xs).1:=by
  rw [atj];simp only [pO,Bool.not_eq_true',atl,aqm,ar6];exact ⟨fun h x hx=>by have:=h x hx;omega,fun h x hx=>by have:=h x hx;omega⟩
 rw [e];rfl

abbrev wtP (g gw:Nat) (v:Value) (lim:Int) (s:WS):List SP:= [pt g vN [pp gw,ii lim,v],pt gw p7 [ii s.e,ii 0],rB v s.b]
theorem H7 {g gw:Nat} {v:Value} {lim:Int} {s:WS}:SC Tryz.prog eJ [pp g] b (wtP g gw v lim s++F) (fun u F'=>u = .bool false∧F'=wtP g gw v lim s++F):=by
 refine ao Tryz.func165 Z Z Z <| anf <| ae Z <| aby ?_
 (iterate 6 refine ae Z ?_)
 refine ba 0 Z Z Z <| apo Z Z Z <| ane <| aj <| bh Z Z av ?_;exact ⟨rfl,rfl⟩
theorem gN {gw:Nat} {e fa:Int}:SC Tryz.prog dB [pp gw] b (pt gw p7 [ii e,ii fa]::F) (fun u F'=>u = .bool (decide (e≠0))∧F'=pt gw p7 [ii e,ii fa]::F):=by
 refine ao Tryz.func166 Z Z Z <| anf <| ae Z <| aby <| apo Z Z Z <| ae Z <| ba 0 Z Z Z <| apn Z Z <| ane <| aj <| bh Z Z av ?_;exact ⟨ap2 Value.bool (by simp),rfl⟩
theorem te {gw:Nat} {e0 fa0 e fa:Int}:SC Tryz.prog eO [pp gw,ii e,ii fa] b (pt gw p7 [ii e0,ii fa0]::F) (fun _ F'=>F'=pt gw p7 [ii (if e0=0 then e else e0),ii (if e0=0 then fa else fa0)]::F):=by
 refine ao Tryz.func186 Z Z Z <| anf <| apo Z Z Z <| ae Z <| ba 0 Z Z Z <| ae Z <| ane ?_;refine cj Z (fun h=> ?_) (fun h=> ?_)
 ·refine aa ?_
  (iterate 6 refine ae Z ?_)
  refine cg 0 Z Z Z Z <| ad <| io Z .nil av ?_;rw [if_pos h,if_pos h]
 ·refine ah <| io Z .nil av ?_;rw [if_neg h,if_neg h]
end

section
variable {b:World} {F:List SP} {g gw:Nat} {v va:Value} {lim:Int} {s:WS}
theorem tH {xs:List Int} (ha:∀ w,Sat b F w→VL (Value.int .u8) w va xs) (hn:xs.length≤1000000):SC Tryz.prog oj [va] b F (fun v F'=>F'=rB v xs::F):=by
 refine ao Tryz.func91 Z Z Z <| bu (fun w H=>(ha w H).form) ?_;rintro ⟨A,c,rfl,h1,h2,h3,h4⟩;cases A with
 | none =>
  have hc:=h3 Z;have hx:xs = []:=ark.1 (by omega);subst hx;refine anf <| ae Z <| ane <| ac <| anf <| apn Z Z <| ane <| ar Z <| anf <| ae Z <| ane <| aj <| al <| bh Z Z (de im 1 Z) ?_
  rfl
 | some a =>
  refine anf <| ae Z <| ane <| ac <| anf <| apn Z Z <| ane <| ai Z <| ah <| ab <| anf <| lp [] Z Z Z Z Z Z Z Z Z fun g0=>eg (kx (n:=0) (sz:=1) Z Z (by decide) 0 Z Z) <| ae Z <| ef 0 Z Z Z Z Z Z Z Z Z (up ha (af 1 [] Z)) (ec _) (by omega) (fun _=>rfl) fun v6=>ae Z <| ane <| aj <| bh Z Z av ?_
  show row im 1 v6 _ _::F=rB v6 xs::F;simp [rB]
theorem jp {p:Bool × List Int} (h:(s.b.length:Int)≤lim):((me lim p s).b.length:Int)≤lim:=by
 unfold me
 split
 ·exact h
 ·split
  ·exact h
  ·split
   ·exact h
   ·show ((s.b++p.2).length:Int)≤lim;rw [aps];omega
theorem oN (h0:0≤lim) (h1:lim≤67108864):SC Tryz.prog mQ [ii lim] b F (fun u F'=>∃ g gw,u = .tuple ⟨[pp g,ii 0]⟩∧F'=wtP g gw (.slice none 0 0) lim ⟨[],0⟩++F):=by
 refine ao Tryz.func41 Z Z Z <| anf <| apn Z Z <| ane <| ac <| anf <| apo Z Z Z <| ni 6 Z (fun h=>absurd h (by omega)) (fun h=>apo Z Z Z <| ane <| cj Z (fun h=>absurd h (by omega)) (fun h=>ah <| ab <| anf <| ae Z <| br Z Z Z Z Z fun g1=>apn Z Z <| br Z Z Z Z Z fun g2=>apn Z Z <| ane <| aj <| fb Z Z Z ((af 2 [0,1] Z).trans ((de im 1 Z).trans (af 3 [1,2,0] Z))) ?_));exact ⟨g2,g1,rfl,rfl⟩
theorem H8 (hs:s.b.length≤1000000):SC Tryz.prog eD [pp g] b (wtP g gw v lim s++F) (fun u F'=>∃ r,u = .tuple ⟨[r,ii (aZ s).2]⟩∧F'=rB r (aZ s).1::F):=by
 refine ao Tryz.func77 Z Z Z <| anf <| apn Z Z <| ane <| ac <| ak <| anf <| ae Z <| au Z Z Z (H7) <| ae Z <| ane <| ai Z <| anf <| apo Z Z Z <| ba 0 Z Z Z <| au Z Z Z (gN.at (af 3 [1,0,2] Z) (af 3 [1,0,2] Z)) <| ae Z <| ane ?_;by_cases h1:s.e≠0
 ·have hw:aZ s=([],s.e):=by unfold aZ;rw [if_pos h1]
  rw [ap5 h1,hw];refine ar Z <| ac <| cq flo _ (by decide +kernel) av <| bj Z Zl <| bj Z Zl <| bj Z Zl <| cd 0 Z Z Z Z <| bj Z Zl <| bj Z Zl <| bj Z Zl <| cd 1 Z Z Z Z <| bj Z Zl <| bj Z Zl <| ap <| ab <| aj <| az <| al <| fb Z Z Z ((af 3 [] Z).trans (de im 1 Z)) ?_;exact ⟨_,rfl,rfl⟩
 have h1':s.e=0:=by simpa using h1
 have hw:aZ s=(s.b,0):=by unfold aZ;rw [if_neg h1]
 rw [aqo h1,hw];refine ai Z <| ah <| bg <| ab <| anf <| apo Z Z Z <| ba 0 Z Z Z <| am Z Z Z (tH (vlB (k:=2) Z) hs) ?_;rintro r _ rfl;refine apn Z Z <| ane <| aj <| fb Z Z Z (af 4 [0] Z) ?_;exact ⟨r,rfl,rfl⟩
end
end Go.Proofs.YtbfailbgdnpaiaaGreatDoor
