/- The engine, part fourteen: memory told piece by piece: a list of pieces, each in blocks of its own; what is not told may be anything. Conditions: none. -/
import Derived.Test.YtbpdffopjkhelaaGreatX1
import Derived.Laws.BytesArg
import Derived.Lib.BytesEntry
import Derived.Lib.ConvBytes
import Derived.Lib.SliceRun
import Derived.ChangeKeysEq
import Derived.WideKeyArr2
import Derived.ChangeMaps5
import Derived.Maps.RangeRun
namespace Go.Eng
open Go
abbrev pp (g:Nat):Value:= .pointer (some ⟨g,0,none⟩)
abbrev ii (x:Int):Value:= .int .i64 x
end Go.Eng
namespace Go.Eng
open Go Go.RowKit

abbrev PH:=Nat→Option Obj
abbrev SP:=PH→Prop
def le (h k:PH):Prop:=∀ i o,h i=some o→k i=some o
def apt (h k:PH):Prop:=∀ i,h i=none∨k i=none
def ph (w:World):PH:=fun i=>w.heap[i]?
theorem le.refl (h:PH):le h h:=fun _ _ e=>e
theorem le.trans {h k l:PH} (a:le h k) (b:le k l):le h l:=fun i o e=>b i o (a i o e)
theorem apt.symm {h k:PH} (a:apt h k):apt k h:=fun i=>(a i).symm
theorem eI {w:World} {i:Nat} {o:Obj} (h:ph w i=some o):i<w.heap.size:=(api.1 h).1

def kZ (F:List SP) (h:PH):Prop:=∃ H:Nat→PH,(∀ i,le (H i) h)∧(∀ i j,i≠j→apt (H i) (H j))∧∀ i A,nth F i=some A→A (H i)

theorem kZ.mono {F:List SP} {h k:PH} (s:kZ F h) (l:le h k):kZ F k:=by
 obtain ⟨H,a,b,c⟩:=s;exact ⟨H,fun i=>(a i).trans l,b,c⟩
theorem kZ.get {F:List SP} {h:PH} {k:Nat} {A:SP} (s:kZ F h) (hk:nth F k=some A):∃ h1,le h1 h∧A h1:=by
 obtain ⟨H,a,b,c⟩:=s;exact ⟨H k,a k,c k A hk⟩
theorem kZ.nil (h:PH):kZ [] h:=⟨fun _ _=>none,fun _ _ _ e=>(by cases e),fun _ _ _ _=> .inl rfl,fun i A e=>(by simp [nth] at e)⟩

structure Sat (b:World) (F:List SP) (w:World):Prop where
 os:w.os=b.os
 tape:w.tape=b.tape
 output:w.output=b.output
 mem:kZ F (ph w)

def Ent (F G:List SP):Prop:=∀ h,kZ F h→kZ G h
theorem Ent.refl (F:List SP):Ent F F:=fun _ h=>h
theorem Ent.trans {F G K:List SP} (a:Ent F G) (b:Ent G K):Ent F K:=fun h s=>b h (a h s)
theorem Sat.ent {b:World} {F G:List SP} {w:World} (h:Sat b F w) (e:Ent F G):Sat b G w:=⟨h.os,h.tape,h.output,e _ h.mem⟩

def wV:Nat→List SP→List SP
 | 0, F => F
 | n + 1, F => match F with
  | [] => []
  | _ :: F => wV n F
theorem Kj (n:Nat) (F:List SP) (j:Nat):nth (wV n F) j=nth F (n+j):=by
 induction n generalizing F with
 | zero => simp [wV]
 | succ n ih =>
  cases F with
  | nil => simp [wV, nth]
  | cons A F => rw [Nat.succ_add]; simp only [wV, nth]; exact ih F
def M1:Nat→List SP→Option (List SP)
 | 0, F => some F
 | n + 1, F => match F with
  | [] => some []
  | _ :: F => M1 n F
theorem M2 (n:Nat) (F:List SP):M1 n F=some (wV n F):=by
 induction n generalizing F with
 | zero => rfl
 | succ n ih => cases F with
  | nil => rfl
  | cons A F => exact ih F
def wW (n:Nat):List Nat→List SP→Option (List SP)
 | [], F => M1 n F
 | k :: ks, F => match nth F k, wW n ks F with
  | some A, some G => some (A :: G)
  | _, _ => none
def Fu (n:Nat):List Nat→Bool
 | [] => true
 | k :: ks => Nat.blt k n && (ks.all fun j => !Nat.beq j k) && Fu n ks
def sig (n:Nat):List Nat→Nat→Nat
 | [], j => n + j
 | k :: _, 0 => k
 | _ :: ks, j + 1 => sig n ks j
theorem Ru {n:Nat} {ks:List Nat} {F G:List SP} (h:wW n ks F=some G) (j:Nat):nth G j=nth F (sig n ks j):=by
 induction ks generalizing G j with
 | nil => simp only [wW, M2, ane] at h; subst h; exact Kj n F j
 | cons k ks ih =>
  simp only [wW] at h
  split at h
  ·rename_i A G' h1 h2
   simp only [ane] at h;subst h;cases j with
   | zero => simp only [nth, sig]; exact h1.symm
   | succ j => simp only [nth, sig]; exact ih h2 j
  ·cases h
theorem Rv {n:Nat} {ks:List Nat} (h:Fu n ks=true) (k:Nat) (hk:k∈ks):k<n:=by
 induction ks with
 | nil => simp at hk
 | cons a ks ih =>
  simp only [Fu,anw] at h;rcases anj.1 hk with rfl | hk
  ·exact anz h.1.1
  ·exact ih h.2 hk
theorem Rw {n:Nat} {ks:List Nat} (j:Nat):sig n ks j∈ks∨(n≤sig n ks j∧∃ i,j=ks.length+i∧sig n ks j=n+i):=by
 induction ks generalizing j with
 | nil => right; exact ⟨by simp [sig], j, by simp, rfl⟩
 | cons a ks ih =>
  cases j with
  | zero => left; simp [sig]
  | succ j =>
   simp only [sig];rcases ih j with h | ⟨h,i,h1,h2⟩
   ·left;exact ank _ h
   ·right;exact ⟨h,i,by simp;omega,h2⟩
theorem Rx {n:Nat} {ks:List Nat} (h:Fu n ks=true):∀ i j,sig n ks i=sig n ks j→i=j:=by
 induction ks with
 | nil => intro i j e; simp [sig] at e; exact e
 | cons a ks ih =>
  have hlt:=Rv h a anl;simp only [Fu,anw] at h;have key:∀ j,sig n ks j≠a:=by
   intro j e;rcases Rw (n:=n) (ks:=ks) j with hm | ⟨hm,_⟩
   ·rw [e] at hm;have:=an4.1 h.1.2 a hm;simp at this
   ·omega
  intro i j e;cases i with
  | zero => cases j with
   | zero => rfl
   | succ j => simp only [sig] at e; exact absurd e.symm (key j)
  | succ i => cases j with
   | zero => simp only [sig] at e; exact absurd e (key i)
   | succ j => simp only [sig] at e; rw [ih h.2 i j e]
theorem rL (n:Nat) (ks:List Nat) {F G:List SP} (hk:Fu n ks=true) (h:wW n ks F=some G):Ent F G:=by
 rintro m ⟨H,a,b,c⟩;refine ⟨fun j=>H (sig n ks j),fun i=>a _,fun i j hij=>b _ _ (fun e=>hij (Rx hk i j e)),fun i A hA=>c _ A ?_⟩;rw [← Ru h];exact hA
theorem ax {F:List SP}:Ent F F:=Ent.refl F
def Vp (n:Nat) (ks:List Nat) (F:List SP):Option (List SP):=match Fu n ks with | true=>wW n ks F | false=>none
theorem af (n:Nat) (ks:List Nat) {F G:List SP} (h:Vp n ks F=some G):Ent F G:=by
  unfold Vp at h
  split at h
  · exact rL n ks ‹_› h
  · cases h

def jl:List SP→Nat→SP→Option (List SP)
 | [], _, _ => none
 | _ :: F, 0, B => some (B :: F)
 | A :: F, k + 1, B => match jl F k B with
  | some G => some (A :: G)
  | none => none
theorem eJ {F G:List SP} {k:Nat} {B:SP} (h:jl F k B=some G) (j:Nat):nth G j=if j=k then some B else nth F j:=by
 induction F generalizing G k j with
 | nil => simp [jl] at h
 | cons A F ih =>
  cases k with
  | zero => simp only [jl, ane] at h; subst h; cases j <;> simp [nth]
  | succ k =>
   simp only [jl] at h
   split at h
   ·rename_i G' h1
    simp only [ane] at h;subst h;cases j with
    | zero => simp [nth]
    | succ j => simp only [nth]; rw [ih h1 j]; simp
   ·cases h
theorem q7 (k:Nat) {F G:List SP} {A B:SP} (hA:nth F k=some A) (hB:∀ h,A h→B h) (hG:jl F k B=some G):Ent F G:=by
 rintro m ⟨H,a,b,c⟩;refine ⟨H,a,b,fun i C hC=> ?_⟩;rw [eJ hG] at hC
 split at hC
 ·rename_i e;subst e;cases hC;exact hB _ (c _ _ hA)
 ·exact c _ _ hC

def all (G:List SP):SP:=kZ G
theorem cG {α:Type} (F G:List α) (j:Nat):nth (F++G) j=if j<F.length then nth F j else nth G (j - F.length):=by
 rw [lw,lw,lw,List.getElem?_append]
theorem sk {G F:List SP}:Ent (all G::F) (G++F):=by
 rintro m ⟨H,a,b,c⟩;obtain ⟨K,a',b',c'⟩:=c 0 (all G) Z;refine ⟨fun j=>if j<G.length then K j else H (j - G.length+1),fun i=> ?_,fun i j hij=> ?_,fun i A hA=> ?_⟩
 ·dsimp only;split
  ·exact (a' i).trans (a 0)
  ·exact a _
 ·dsimp only;have hK:∀ i j,apt (K i) (H (j+1)):=fun i j x=>by
   rcases b 0 (j+1) (by omega) x with h | h
   ·left;cases hx:K i x with
    | none => rfl
    | some o => rw [a' i x o hx] at h; cases h
   ·exact .inr h
  split <;> split
  ·exact b' i j hij
  ·exact hK i _
  ·exact (hK j _).symm
  ·exact b _ _ (by omega)
 ·rw [cG] at hA;dsimp only;split at hA
  ·rename_i h;rw [if_pos h];exact c' i A hA
  ·rename_i h;rw [if_neg h];exact c _ A (by simpa [nth] using hA)
open Classical in
theorem eg {G F:List SP}:Ent (G++F) (all G::F):=by
 rintro m ⟨H,a,b,c⟩
 let U:PH:=fun i=>if e:∃ j,j<G.length∧H j i≠none then H e.choose i else none
 have hU:∀ j,j<G.length→le (H j) U:=by
  intro j hj i o ho;have e:∃ j,j<G.length∧H j i≠none:=⟨j,hj,by rw [ho];simp⟩;have:U i=H e.choose i:=dif_pos e;rw [this];have hs:=e.choose_spec;by_cases hjj:e.choose=j
  ·rw [hjj];exact ho
  ·rcases b _ _ hjj i with h | h
   ·exact absurd h hs.2
   ·rw [ho] at h;cases h
 have hUm:le U m:=by
  intro i o ho;by_cases e:∃ j,j<G.length∧H j i≠none
  ·have:U i=H e.choose i:=dif_pos e;rw [this] at ho;exact a _ i o ho
  ·have:U i=none:=dif_neg e;rw [this] at ho;cases ho
 have hUa:∀ k,G.length≤k→apt U (H k):=by
  intro k hk i;by_cases e:∃ j,j<G.length∧H j i≠none
  ·right;have hs:=e.choose_spec;rcases b e.choose k (by omega) i with h | h
   ·exact absurd h hs.2
   ·exact h
  ·exact .inl (dif_neg e)
 refine ⟨fun j=>match j with | 0=>U | j+1=>H (j+G.length),fun i=> ?_,fun i j hij=> ?_,fun i A hA=> ?_⟩
 ·cases i with
  | zero => exact hUm
  | succ i => exact a _
 ·cases i with
  | zero => cases j with
   | zero => exact absurd Z hij
   | succ j => exact hUa _ (by omega)
  | succ i => cases j with
   | zero => exact (hUa _ (by omega)).symm
   | succ j => exact b _ _ (by omega)
 ·cases i with
  | zero =>
   simp only [nth,ane] at hA;subst hA;refine ⟨fun j=>if j<G.length then H j else fun _=>none,fun i=> ?_,fun i j hij=> ?_,fun i A hA=> ?_⟩
   ·dsimp only;split
    ·exact hU _ (by assumption)
    ·intro _ _ e;cases e
   ·dsimp only;split
    ·split
     ·exact b _ _ hij
     ·exact fun _=> .inr Z
    ·exact fun _=> .inl Z
   ·have hi:i<G.length:=by
     rw [lw] at hA;exact (ann.1 hA).1
    dsimp only;rw [if_pos hi];exact c i A (by rw [cG,if_pos hi];exact hA)
  | succ i =>
   simp only [nth] at hA;exact c _ A (by rw [cG,if_neg (by omega)];simpa using hA)

section
variable {b w w':World} {F G:List SP}
theorem Sat.ext (h:Sat b F w) (e:Ext w w'):Sat b F w' :=
 ⟨e.os.trans h.os,e.tape.trans h.tape,e.output.trans h.output,h.mem.mono fun i o hi=>by
  have:=e.keep i (eI hi) id;exact this.trans hi⟩
theorem Sat.new (h:Sat b F w) (e:Ext w w') {A:SP} {hn:PH} (h1:le hn (ph w')) (h2:∀ i,hn i≠none→w.heap.size≤i) (hA:A hn):Sat b (A::F) w':=by
 have h':=h.ext e;refine ⟨h'.os,h'.tape,h'.output,?_⟩;obtain ⟨H,a,b',c⟩:=h.mem;have hap:∀ i,apt hn (H i):=fun i x=>by
  by_cases hx:hn x=none
  ·exact .inl hx
  ·right;have:=h2 x hx;cases hH:H i x with
   | none => rfl
   | some o => have := eI (a i x o hH); omega
 refine ⟨fun j=>match j with | 0=>hn | j+1=>H j,fun i=> ?_,fun i j hij=> ?_,fun i A' hA'=> ?_⟩
 ·cases i with
  | zero => exact h1
  | succ i => exact (a i).trans fun x o hx => (e.keep x (eI hx) id).trans hx
 ·cases i with
  | zero => cases j with
   | zero => exact absurd Z hij
   | succ j => exact hap j
  | succ i => cases j with
   | zero => exact (hap i).symm
   | succ j => exact b' i j (by omega)
 ·cases i with
  | zero => simp only [nth, ane] at hA'; subst hA'; exact hA
  | succ i => exact c i A' hA'
theorem Sat.upd (h:Sat b F w) (k:Nat) {A B:SP} {D:Nat→Prop} (hk:nth F k=some A) (e:Fr D w w')
  (hu:∀ h1,le h1 (ph w)→A h1→(∀ i,i<w.heap.size→D i→h1 i≠none)∧∃ h2,le h2 (ph w')∧B h2∧∀ i,h2 i≠none→h1 i≠none∨w.heap.size≤i)
  (hG:jl F k B=some G):Sat b G w':=by
 refine ⟨e.os.trans h.os,e.tape.trans h.tape,e.output.trans h.output,?_⟩;obtain ⟨H,a,b',c⟩:=h.mem;obtain ⟨hD,h2,l2,hB,hn⟩:=hu (H k) (a k) (c k A hk);have hap:∀ j,j≠k→apt h2 (H j):=fun j hj x=>by
  by_cases hx:h2 x=none
  ·exact .inl hx
  ·right;rcases hn x hx with h1 | h1
   ·rcases b' j k hj x with h3 | h3
    ·exact h3
    ·exact absurd h3 h1
   ·cases hH:H j x with
    | none => rfl
    | some o => have := eI (a j x o hH); omega
 refine ⟨fun j=>if j=k then h2 else H j,fun i=> ?_,fun i j hij=> ?_,fun i A' hA'=> ?_⟩
 ·dsimp only;split
  ·exact l2
  ·rename_i hne
   intro x o hx;have hx':=a i x o hx;refine (e.keep x (eI hx') fun hd=> ?_).trans hx';rcases b' i k hne x with h3 | h3
   ·rw [hx] at h3;cases h3
   ·exact hD x (eI hx') hd h3
 ·dsimp only;split
  ·rename_i e1;subst e1;rw [if_neg (Ne.symm hij)];exact hap j (Ne.symm hij)
  ·split
   ·rename_i e1;subst e1;exact (hap i hij).symm
   ·exact b' i j hij
 ·rw [eJ hG] at hA';dsimp only;split at hA'
  ·rename_i e1;rw [if_pos e1];cases hA';exact hB
  ·rename_i e1;rw [if_neg e1];exact c i A' hA'

def pt (g t:Nat) (cs:List Value):SP:=fun h=>h g=some (.cells cs.toArray t (0,0))
variable {k g t:Nat} {cs cs':List Value}
theorem Sat.blk (h:Sat b F w) (hk:nth F k=some (pt g t cs)):Blk w g t cs:=by
 obtain ⟨h1,l,hA⟩:=h.mem.get hk;exact l _ _ hA
def one (g:Nat) (o:Obj):PH:=fun i=>if i=g then some o else none
theorem yg {h:PH} {g:Nat} {o:Obj} (e:h g=some o):le (one g o) h:=by
 intro i u hi;simp only [one] at hi;split at hi
 ·rename_i e1;subst e1;cases hi;exact e
 ·cases hi
theorem yh {g i:Nat} {o:Obj} (h:one g o i≠none):i=g:=by
 simp only [one] at h;split at h
 ·assumption
 ·exact absurd Z h
theorem yi (g:Nat) (o:Obj):one g o g=some o:=by simp [one]
theorem Sat.alloc (h:Sat b F w) (e:Ext w w') (hb:Blk w' g t cs) (hg:w.heap.size≤g):Sat b (pt g t cs::F) w' :=
 h.new e (yg (h:=ph w') hb) (fun i hi=>by rw [yh hi];exact hg) (yi g _)
theorem Sat.write (h:Sat b F w) (hk:nth F k=some (pt g t cs)) (e:Fr (· = g) w w') (hb:Blk w' g t cs') (hG:jl F k (pt g t cs')=some G):Sat b G w' :=
 h.upd k hk e (fun h1 _ hA=>⟨fun i _ hi=>by subst hi;rw [show h1 i=_ from hA];simp,_,yg (h:=ph w') hb,yi g _,fun i hi=> .inl (by rw [yh hi,show h1 g=_ from hA];simp)⟩) hG
theorem Sat.ne (h:Sat b F w) {i j g' t':Nat} {ds:List Value} (hi:nth F i=some (pt g t cs)) (hj:nth F j=some (pt g' t' ds)) (hij:i≠j):g≠g':=by
 rintro rfl;obtain ⟨H,a,b',c⟩:=h.mem;rcases b' i j hij g with h1 | h1
 ·rw [show H i g=_ from c i _ hi] at h1;cases h1
 ·rw [show H j g=_ from c j _ hj] at h1;cases h1

def Is (b:World):SP:=fun h=>∀ i o,ph b i=some o→h i=some o
theorem Sat.start (w:World):Sat w [Is w] w:=by
 refine ⟨rfl,rfl,rfl,fun j=>match j with | 0=>ph w | _+1=>fun _=>none,fun i=> ?_,fun i j hij=> ?_,fun i A hA=> ?_⟩
 ·cases i with
  | zero => exact le.refl _
  | succ i => exact fun _ _ e => by cases e
 ·cases i with
  | zero => cases j with
   | zero => exact absurd Z hij
   | succ j => exact fun _ => .inr Z
  | succ i => exact fun _ => .inl Z
 ·cases i with
  | zero => simp only [nth, ane] at hA; subst hA; exact fun _ _ e => e
  | succ i => simp [nth] at hA
theorem Sat.is (h:Sat b F w) (hk:nth F k=some (Is b)):Ext b w:=by
 obtain ⟨h1,l,hA⟩:=h.mem.get hk;have hkeep:∀ i,i<b.heap.size→w.heap[i]? = b.heap[i]?:=fun i hi=>by
  have:ph b i=some b.heap[i]:=Array.getElem?_eq_getElem hi;exact (l _ _ (hA i _ this)).trans this.symm
 refine ⟨h.os,h.tape,h.output,?_,fun i hi _=>hkeep i hi⟩;rcases ap3 w.heap.size b.heap.size with hlt | hge
 ·have:=hkeep w.heap.size hlt;rw [Array.getElem?_eq_none (aoc _),Array.getElem?_eq_getElem hlt] at this;cases this
 ·exact hge

def row (e sz:Nat) (v:Value) (n:Nat) (cs:List Value):SP:=fun h =>
 cs.length=n*sz∧((v = .slice none 0 0∧n=0) ∨
  ∃ g off cap cur,v = .slice (some ⟨g,off,none⟩) n cap∧h g=some (.cells cur e (0,0))∧n≤cap∧cap≤maxLen∧off+cap*sz≤cur.size∧(cur.toList.drop off).take (n*sz)=cs)
variable {e sz n:Nat} {v:Value}
theorem Im {h:PH} (hl:le h (ph w)) (hA:row e sz v n cs h):Oat w 0 e sz v n cs:=by
 refine ⟨hA.1,hA.2.imp id ?_⟩;rintro ⟨g,off,cap,cur,h1,h2,h3⟩;exact ⟨g,off,cap,cur,h1,anq _,hl _ _ h2,h3⟩
theorem Sat.oat (h:Sat b F w) (hk:nth F k=some (row e sz v n cs)):Oat w 0 e sz v n cs:=by
 obtain ⟨h1,l,hA⟩:=h.mem.get hk;exact Im l hA
theorem Sat.sl (h:Sat b F w) (hk:nth F k=some (row e sz v n cs)):SL w sz v n cs:=(h.oat hk).sl
theorem qO {base:Nat} (h:Oat w base e sz v n cs):∃ h1,le h1 (ph w)∧row e sz v n cs h1∧∀ i,h1 i≠none→base≤i∧v.ownBlock=some i:=by
 rcases h with ⟨hl,⟨rfl,h0⟩ | ⟨g,off,cap,cur,rfl,hb,hh,rest⟩⟩
 ·exact ⟨fun _=>none,fun _ _ e=>(by cases e),⟨hl,.inl ⟨rfl,h0⟩⟩,fun i hi=>absurd Z hi⟩
 ·exact ⟨one g _,yg (h:=ph w) hh,⟨hl,.inr ⟨g,off,cap,cur,rfl,yi g _,rest⟩⟩,fun i hi=>by rw [yh hi];exact ⟨hb,rfl⟩⟩
theorem Sat.newOat (h:Sat b F w) (x:Ext w w') (ho:Oat w' w.heap.size e sz v n cs):Sat b (row e sz v n cs::F) w':=by
 obtain ⟨h1,l,hA,hn⟩:=qO ho;exact h.new x l (fun i hi=>(hn i hi).1) hA
theorem kt {v:Value} (hv:v = .slice (some ⟨g,0,none⟩) n n) (hn:cs.length=n*sz) (hm:n≤67108864) (k:Nat) (hk:nth F k=some (pt g t cs)) (hG:jl F k (row t sz v n cs)=some G):Ent F G:=by
 subst hv;refine q7 k hk (fun h hp=>⟨hn,.inr ⟨g,0,n,cs.toArray,rfl,hp,aoc _,by unfold maxLen;omega,by simp;omega,?_⟩⟩) hG;simp only [arn];rw [← hn];exact an7
theorem lA {A:Option Addr} {c j:Nat} (hj:j≤n) (k:Nat) (hk:nth F k=some (row e sz (.slice A n c) n cs)) {v:Value} (hv:v = .slice (if c=j then A else A.map (·.add (j*sz))) (n - j) (c - j))
  (hG:jl F k (row e sz v (n - j) (cs.drop (j*sz)))=some G):Ent F G:=by
 subst hv;refine q7 k hk (fun h hA=> ?_) hG;have key:∀ (w:World),le h (ph w)→row e sz (.slice (if c=j then A else A.map (·.add (j*sz))) (n - j) (c - j)) (n - j) (cs.drop (j*sz)) (ph w):=fun w hl=>by
  have:=Oat.drop (Im hl hA) hj;refine ⟨this.1,this.2.imp id ?_⟩;rintro ⟨g,off,cap,cur,h1,_,h2,h3⟩;exact ⟨g,off,cap,cur,h1,h2,h3⟩
 rcases hA with ⟨hl,⟨hv,h0⟩ | ⟨g,off,cap,cur,hv,hh,rest⟩⟩
 ·simp only [Value.slice.injEq] at hv;obtain ⟨rfl,h2,rfl⟩:=hv;obtain rfl:j=0:=by omega
  exact ⟨by simpa using hl,.inl ⟨by simp;omega,by omega⟩⟩
 ·simp only [Value.slice.injEq,true_and] at hv;obtain ⟨rfl,rfl⟩:=hv;obtain ⟨hn,hc,hcur,ht⟩:=rest;refine ⟨by rw [aoi,hl,Nat.sub_mul],?_⟩;by_cases hck:c=j
  ·subst hck;obtain rfl:n=c:=by omega
   right;refine ⟨g,off,0,cur,by simp,hh,by omega,by omega,by simp;have:=anq (n*sz);omega,?_⟩;simp [← hl]
  ·right;refine ⟨g,off+j*sz,c - j,cur,?_,hh,by omega,by omega,?_,?_⟩
   ·rw [if_neg hck];simp only [aoh,Addr.add]
    split
    ·rename_i h0;simp [h0]
    ·rfl
   ·rw [Nat.sub_mul];have:j*sz≤c*sz:=ao2 _ (by omega);omega
   ·rw [← ht,List.drop_take,arm,Nat.sub_mul]
theorem lB {A:Option Addr} {c j:Nat} (hj:j≤n) (k:Nat) (hk:nth F k=some (row e sz (.slice A n c) n cs)) (hG:jl F k (row e sz (.slice A j c) j (cs.take (j*sz)))=some G):Ent F G:=by
 refine q7 k hk (fun h hA=> ?_) hG;rcases hA with ⟨hl,⟨hv,h0⟩ | ⟨g,off,cap,cur,hv,hh,hn,hc,hcur,ht⟩⟩
 ·simp only [Value.slice.injEq] at hv;obtain ⟨rfl,h2,rfl⟩:=hv;obtain rfl:j=0:=by omega
  exact ⟨by simp,.inl ⟨rfl,rfl⟩⟩
 ·simp only [Value.slice.injEq,true_and] at hv;obtain ⟨rfl,rfl⟩:=hv;have hjn:j*sz≤n*sz:=ao2 _ hj;refine ⟨by rw [anm,hl];omega,.inr ⟨g,off,c,cur,rfl,hh,by omega,hc,hcur,?_⟩⟩;rw [← ht,List.take_take];congr 1;omega
end
end Go.Eng
namespace Go.Eng
open Go Go.RowKit

section
variable {P:Program} {ro:Option Nat} {N:Nat} {l rest:List Oper} {Q:Exit→Act→World→Prop} {E:List (Nat × Value)} {ds:List Deferred} {b:World} {F G:List SP} {e:Exit} {c:Code}

structure SW (P:Program) (ro:Option Nat) (N:Nat) (c:Code) (Q:Exit→Act→World→Prop) (E:List (Nat × Value)) (ds:List Deferred) (b:World) (F:List SP):Prop where
 run:∀ w,Sat b F w→CW P ro N c Q E ds w
structure SO (P:Program) (ro:Option Nat) (N:Nat) (l rest:List Oper) (Q:Exit→Act→World→Prop) (E:List (Nat × Value)) (ds:List Deferred) (b:World) (F:List SP):Prop where
 run:∀ w,Sat b F w→OW P ro N l rest Q E ds w
structure SN (N:Nat) (Q:Exit→Act→World→Prop) (e:Exit) (E:List (Nat × Value)) (ds:List Deferred) (b:World) (F:List SP):Prop where
 run:∀ w,Sat b F w→PN N Q e E ds w
structure SD (P:Program) (fl:Oper→Bool) (ro:Option Nat) (N:Nat) (F0:List SP) (l:List Oper) (k:Nat) (rest:List Oper) (Q:Exit→Act→World→Prop) (E:List (Nat × Value)) (ds:List Deferred) (b:World) (F:List SP):Prop where
 run:∀ w,Sat b F w→DW P fl ro N (Sat b F0) l k rest Q E ds w

theorem ad {x y:Code} (h:SW P ro N x (jL P ro y Q) E ds b F):SW P ro N (.seq x y) Q E ds b F:=⟨fun w H=>dz (h.1 w H)⟩
theorem ab {y:Code} (h:SW P ro N y Q E ds b F):SN N (jL P ro y Q) .normal E ds b F:=⟨fun w H=>b8 (h.1 w H)⟩
theorem ag {y:Code} (h:SN N Q .ret E ds b F):SN N (jL P ro y Q) .ret E ds b F:=⟨fun w H=>ia (h.1 w H)⟩
theorem au {y:Code} {i:Nat} (h:SN N Q (.exit i) E ds b F):SN N (jL P ro y Q) (.exit i) E ds b F:=⟨fun w H=>kj (h.1 w H)⟩
theorem am {x:Code} {i:Nat} (h:SW P ro N x (Exit.inBlock i Q) E ds b F):SW P ro N (.block i x) Q E ds b F:=⟨fun w H=>jk (h.1 w H)⟩
theorem bh {i:Nat} (h:SN N Q .normal E ds b F):SN N (Exit.inBlock i Q) .normal E ds b F:=⟨fun w H=>nc (h.1 w H)⟩
theorem al {i:Nat} (h:SN N Q .ret E ds b F):SN N (Exit.inBlock i Q) .ret E ds b F:=⟨fun w H=>si (h.1 w H)⟩
theorem ap {i:Nat} (h:SN N Q .normal E ds b F):SN N (Exit.inBlock i Q) (.exit i) E ds b F:=⟨fun w H=>jw (h.1 w H)⟩
theorem lh {i j:Nat} (hij:Nat.beq j i=false) (h:SN N Q (.exit j) E ds b F):SN N (Exit.inBlock i Q) (.exit j) E ds b F:=⟨fun w H=>qV hij (h.1 w H)⟩
theorem ak (h:SN N Q .normal E ds b F):SW P ro N .skip Q E ds b F:=⟨fun w H=>jx (h.1 w H)⟩
theorem ai (h:SN N Q .ret E ds b F):SW P ro N .ret Q E ds b F:=⟨fun w H=>fj (h.1 w H)⟩
theorem bz {i:Nat} (h:SN N Q (.exit i) E ds b F):SW P ro N (.exit i) Q E ds b F:=⟨fun w H=>xq (h.1 w H)⟩
theorem ao {o:Operand} {x y:Code} (hc:ev E o=some (.bool true)) (h:SW P ro N x Q E ds b F):SW P ro N (.cond o x y) Q E ds b F:=⟨fun w H=>x4 hc (h.1 w H)⟩
theorem aj {o:Operand} {x y:Code} (hc:ev E o=some (.bool false)) (h:SW P ro N y Q E ds b F):SW P ro N (.cond o x y) Q E ds b F:=⟨fun w H=>x5 hc (h.1 w H)⟩
theorem sm {o:Operand} {x y:Code} {v:Bool} (hc:ev E o=some (.bool v)) (ht:v=true→SW P ro N x Q E ds b F) (hf:v=false→SW P ro N y Q E ds b F):SW P ro N (.cond o x y) Q E ds b F:=⟨fun w H=>qK hc (fun h=>(ht h).1 w H) (fun h=>(hf h).1 w H)⟩
theorem de {o:Operand} {x y:Code} {p:Prop} [Decidable p] (hc:ev E o=some (.bool (decide p))) (ht:p→SW P ro N x Q E ds b F) (hf:¬ p→SW P ro N y Q E ds b F):SW P ro N (.cond o x y) Q E ds b F:=⟨fun w H=>wy hc (fun h=>(ht h).1 w H) (fun h=>(hf h).1 w H)⟩
theorem cH {o:Operand} {x y:Code} {p:Prop} [Decidable p] (hc:ev E o=some (.bool (!decide p))) (ht:¬ p→SW P ro N x Q E ds b F) (hf:p→SW P ro N y Q E ds b F):SW P ro N (.cond o x y) Q E ds b F:=⟨fun w H=>qK hc (fun h=>(ht (by simpa using h)).1 w H) (fun h=>(hf (by simpa using h)).1 w H)⟩
theorem aa {i:Nat} (h:SO P ro N l l Q E ds b F):SW P ro N (.region i l.toArray false) Q E ds b F:=⟨fun w H=>cu (h.1 w H)⟩
theorem ac (h:SN N Q .normal E ds b F):SO P ro N l [] Q E ds b F:=⟨fun w H=>ec (h.1 w H)⟩
theorem akv {y:Code} (h:SW P ro N y Q E ds b F):SO P ro N l [] (jL P ro y Q) E ds b F:=ac (ab h)
theorem akw {y:Code} {i:Nat} (h:SO P ro N l l (jL P ro y Q) E ds b F):SW P ro N (.seq (.region i l.toArray false) y) Q E ds b F:=ad (aa h)
theorem aan {y:Code} {i:Nat} {l':List Oper} (h:SO P ro N l' l' (jL P ro y Q) E ds b F):SO P ro N l [] (jL P ro (.seq (.region i l'.toArray false) y) Q) E ds b F:=ac (ab (ad (aa h)))
theorem yj (he:Ent F G) (h:SW P ro N c Q E ds b G):SW P ro N c Q E ds b F:=⟨fun w H=>h.1 w (H.ent he)⟩
theorem eo (he:Ent F G) (h:SO P ro N l rest Q E ds b G):SO P ro N l rest Q E ds b F:=⟨fun w H=>h.1 w (H.ent he)⟩
theorem rl (he:Ent F G) (h:SN N Q e E ds b G):SN N Q e E ds b F:=⟨fun w H=>h.1 w (H.ent he)⟩
theorem bu {p:Prop} (hp:∀ w,Sat b F w→p) (h:p→SW P ro N c Q E ds b F):SW P ro N c Q E ds b F:=⟨fun w H=>(h (hp w H)).1 w H⟩
theorem b9 {p:Prop} (hp:∀ w,Sat b F w→p) (h:p→SO P ro N l rest Q E ds b F):SO P ro N l rest Q E ds b F:=⟨fun w H=>(h (hp w H)).1 w H⟩
theorem Ry {p:Prop} (hp:∀ w,Sat b F w→p) (h:p→SN N Q e E ds b F):SN N Q e E ds b F:=⟨fun w H=>(h (hp w H)).1 w H⟩
theorem ik (i:Nat) {u:Value} (v:Value) (hl:kh E i=some u) (he:u=v) (h:SW P ro N c Q ((i,v)::E) ds b F):SW P ro N c Q E ds b F:=⟨fun w H=>Rm i v hl he (h.1 w H)⟩
theorem bm (i:Nat) {u:Value} (v:Value) (hl:kh E i=some u) (he:u=v) (h:SO P ro N l rest Q ((i,v)::E) ds b F):SO P ro N l rest Q E ds b F:=⟨fun w H=>Fh i v hl he (h.1 w H)⟩
theorem se (i:Nat) {p:Prop} [Decidable p] (hl:kh E i=some (.bool (decide p))) (hp:p) (h:SO P ro N l rest Q ((i,.bool true)::E) ds b F):SO P ro N l rest Q E ds b F:=bm i (.bool true) hl (am7 Value.bool (ani hp)) h
theorem sq (i:Nat) {p:Prop} [Decidable p] (hl:kh E i=some (.bool (decide p))) (hp:¬ p) (h:SO P ro N l rest Q ((i,.bool false)::E) ds b F):SO P ro N l rest Q E ds b F:=bm i (.bool false) hl (am7 Value.bool (ans hp)) h
theorem dK {c:Code} (i:Nat) {p:Prop} [Decidable p] (hl:kh E i=some (.bool (decide p))) (hp:p) (h:SW P ro N c Q ((i,.bool true)::E) ds b F):SW P ro N c Q E ds b F:=ik i (.bool true) hl (am7 Value.bool (ani hp)) h
theorem rM {c:Code} (i:Nat) {p:Prop} [Decidable p] (hl:kh E i=some (.bool (decide p))) (hp:¬ p) (h:SW P ro N c Q ((i,.bool false)::E) ds b F):SW P ro N c Q E ds b F:=ik i (.bool false) hl (am7 Value.bool (ans hp)) h
theorem wz (i:Nat) {p:Prop} [Decidable p] (hl:kh E i=some (.bool (decide p))) (h:SO P ro N l rest Q ((i,.bool true)::E) ds b F) (hp:p:=by omega):SO P ro N l rest Q E ds b F:=se i hl hp h
theorem px (i:Nat) {p:Prop} [Decidable p] (hl:kh E i=some (.bool (decide p))) (h:SO P ro N l rest Q ((i,.bool false)::E) ds b F) (hp:¬ p:=by omega):SO P ro N l rest Q E ds b F:=sq i hl hp h
theorem dL {c:Code} (i:Nat) {p:Prop} [Decidable p] (hl:kh E i=some (.bool (decide p))) (h:SW P ro N c Q ((i,.bool true)::E) ds b F) (hp:p:=by omega):SW P ro N c Q E ds b F:=dK i hl hp h
theorem oe {c:Code} (i:Nat) {p:Prop} [Decidable p] (hl:kh E i=some (.bool (decide p))) (h:SW P ro N c Q ((i,.bool false)::E) ds b F) (hp:¬ p:=by omega):SW P ro N c Q E ds b F:=rM i hl hp h
theorem np (i:Nat) {p:Prop} [Decidable p] (hl:kh E i=some (.bool (decide p))) (ht:p→SO P ro N l rest Q ((i,.bool true)::E) ds b F) (hf:¬ p→SO P ro N l rest Q ((i,.bool false)::E) ds b F):SO P ro N l rest Q E ds b F:=⟨fun w H=>Xr i hl (fun h=>(ht h).1 w H) (fun h=>(hf h).1 w H)⟩
def M3 {G:Type} (N:Nat) (b:World) (Eg:G→List (Nat × Value)) (Fg:G→List SP) (I:G→Prop) (μ:G→Nat) (g:G) (ds:List Deferred) (a':Act) (w':World):Prop :=
 Rnd N Eg (fun g w=>Sat b (Fg g) w∧I g) μ g ds a' w'
theorem yX {S:Type} (Eg:S→List (Nat × Value)) (Fg:S→List SP) (I:S→Prop) (μ:S→Nat) (g0:S) (hs:Sub (Eg g0) E) (he:Ent F (Fg g0)) (h0:I g0)
  (hr:∀ g,I g→SW P ro N c (Exit.then (M3 N b Eg Fg I μ g ds) Q) (Eg g) ds b (Fg g)):SW P ro N (.loop c) Q E ds b F:=⟨fun _ H=>cC Eg (fun g w=>Sat b (Fg g) w∧I g) μ ⟨g0,hs,H.ent he,h0⟩ fun g w hJ=>(hr g hJ.2).1 w hJ.1⟩
theorem lC {S:Type} {Eg:S→List (Nat × Value)} {Fg:S→List SP} {I:S→Prop} {μ:S→Nat} {g:S} (g':S) (hs:Sub (Eg g') E) (he:Ent F (Fg g')) (hI:I g') (hlt:μ g'<μ g) :
  SN N (Exit.then (M3 N b Eg Fg I μ g ds) Q) .normal E ds b F:=⟨fun _ H=>vk g' hs ⟨H.ent he,hI⟩ hlt⟩
theorem dt {S:Type} (Eg:S→List (Nat × Value)) (Fg:S→List SP) (I:S→Prop) (μ:S→Nat) (g0:S) (he:Ent F (Fg g0)) (h0:I g0)
    (hr:∀ g,I g→SW P ro N c (Exit.then (M3 N b Eg Fg I μ g ds) Q) (Eg g) ds b (Fg g)) (hs:Sub (Eg g0) E:=by repeat (first | exact trivial | refine And.intro Z ?_)):SW P ro N (.loop c) Q E ds b F:=yX Eg Fg I μ g0 hs he h0 hr
theorem ly {S:Type} {Eg:S→List (Nat × Value)} {Fg:S→List SP} {I:S→Prop} {μ:S→Nat} {g:S} (g':S) (he:Ent F (Fg g')) (hI:I g') (hlt:μ g'<μ g) (hs:Sub (Eg g') E:=by repeat (first | exact trivial | refine And.intro Z ?_)) :
    SN N (Exit.then (M3 N b Eg Fg I μ g ds) Q) .normal E ds b F:=lC g' hs he hI hlt
theorem cw {S:Type} {Eg:S→List (Nat × Value)} {Fg:S→List SP} {I:S→Prop} {μ:S→Nat} {g:S} (g':S) (he:Ent F (Fg g')) (hI:I g') (hs:Sub (Eg g') E:=by repeat (first | exact trivial | refine And.intro Z ?_)) (hlt:μ g'<μ g:=by first | omega | (dsimp only;omega)) :
    SN N (Exit.then (M3 N b Eg Fg I μ g ds) Q) .normal E ds b F:=lC g' hs he hI hlt
theorem cd {K:Act→World→Prop} (h:SN N Q .ret E ds b F):SN N (Exit.then K Q) .ret E ds b F:=⟨fun w H=>eA (h.1 w H)⟩
theorem av {K:Act→World→Prop} {i:Nat} (h:SN N Q (.exit i) E ds b F):SN N (Exit.then K Q) (.exit i) E ds b F:=⟨fun w H=>ma (h.1 w H)⟩
def Mid {G:Type} (N:Nat) (b:World) (Eg:G→List (Nat × Value)) (Fg:G→List SP) (I:G→Prop) (ds:List Deferred) (a':Act) (w':World):Prop :=
 ∃ g,Kn N (Eg g) a'∧a'.defers=ds∧Sat b (Fg g) w'∧I g
theorem rN {S:Type} {x y:Code} (Eg:S→List (Nat × Value)) (Fg:S→List SP) (I:S→Prop) (h:SW P ro N x (Exit.then (Mid N b Eg Fg I ds) Q) E ds b F)
  (hy:∀ g,I g→SW P ro N y Q (Eg g) ds b (Fg g)):SW P ro N (.seq x y) Q E ds b F:=by
 constructor
 intro w H a hk hd;refine wpIn_seq <| Code.wpIn_mono ?_ (h.1 w H a hk hd);intro e a' w' hq;cases e with
 | normal => obtain ⟨g, hk', hd', hs, hI⟩ := hq; exact (hy g hI).1 w' hs a' hk' hd'
 | _ => exact hq
theorem Fv {S:Type} {Eg:S→List (Nat × Value)} {Fg:S→List SP} {I:S→Prop} (g:S) (hs:Sub (Eg g) E) (he:Ent F (Fg g)) (hI:I g) :
  SN N (Exit.then (Mid N b Eg Fg I ds) Q) .normal E ds b F:=⟨fun _ H _ hk hd=>⟨g,hk.sub hs,hd,H.ent he,hI⟩⟩
theorem eK {S:Type} {Eg:S→List (Nat × Value)} {Fg:S→List SP} {I:S→Prop} (g:S) (he:Ent F (Fg g)) (hI:I g) (hs:Sub (Eg g) E:=by repeat (first | exact trivial | refine And.intro Z ?_)) :
    SN N (Exit.then (Mid N b Eg Fg I ds) Q) .normal E ds b F:=Fv g hs he hI
end

theorem pH {P:Program} {tt:Nat→Option TI} [TT P tt] {w:World} {base t ty e n m:Nat} {i:TI} {s1 s2:Nat} {z1:Value} {f1:List (Nat × Nat)} (ht:tt t=some ⟨.slice e,s1,s2,z1,f1⟩) (he:tt e=some i) (hz:i.zero.cells.size=i.size) (hsz:0<i.size)
  {v vx:Value} {cs news:List Value} (hown:Oat w base e i.size v n cs) (hx:SL w i.size vx m news) (h1:∀ u∈news,u.oneCell'=true)
  (h63:n+m≤maxLen) (hbytes:(n+m)*i.bytes≤140737488355328) (hbase:base≤w.heap.size) :
  ∃ v' w',(Builtin.append_ #[t,t] ty #[v,vx]).run P w = .ok v' w'∧Oat w' base e i.size v' (n+m) (cs++news)∧Fr (fun k=>v.ownBlock=some k) w w'∧∀ k,v'.ownBlock=some k→v.ownBlock=some k∨w.heap.size≤k:=by
 rcases hown.2 with ⟨rfl,rfl⟩ | ⟨g,off,cap,cur,rfl,hbg,hh,hnc,hcm,hcs,htake⟩
 ·have hm:j9 w base e i.size (.slice none 0 0) 0 cs:=⟨hown.1,.inl ⟨rfl,rfl⟩⟩;have hm':j9 w w.heap.size e i.size (.slice none 0 0) 0 cs:=⟨hown.1,.inl ⟨rfl,rfl⟩⟩;obtain ⟨v',w',h2,h3,h4⟩:=rE (P:=P) (ty:=ty) ht he hz hsz hm' hx h1 h63 hbytes (aoc _);exact ⟨v',w',h2,(j9.oat h3).weaken hbase,h4,fun k hk=> .inr (j9.block h3 hk).1⟩
 ·obtain ⟨j,hj,h2,h3,h4⟩:=TT.info (P:=P) e i he;have hu:=TT.und (P:=P) t _ ht Z;have hlen:(cs++news).length=(n+m)*i.size:=by rw [am9,hown.1,hx.choose_spec.choose_spec.2.1,arc]
  obtain ⟨A,c,rfl,hl,hc,hm,hz0,hcell⟩:=hx;cases A with
  | none =>
   have hm0:m=0:=by have:=hz0 Z;omega
   subst hm0;have hn:news = []:=an3 (by simpa using hl);subst hn;refine ⟨_,w,?_,by simpa using hown,Fr.refl _ w,fun _ hk=> .inl hk⟩;simp [Builtin.append_,run_underlying hu,sizeOf,typeInfo,hj,Builtin.lenOf,Builtin.firstCells,hnc,storeCells]
  | some a =>
   have hnews:∀ k u,news[k]? = some u→w.cell? (a.add k)=some u:=by
    intro k u hk;have hlt:k<news.length:=(ann.1 hk).1;have hm0:0<m:=by
     rcases aoo m with h0 | h0
     ·subst h0;simp at hl;subst hl;simp at hlt
     ·exact h0
    obtain ⟨b,off',hab,hb,hcc⟩:=hcell hm0;cases hab;have ha:(⟨b,off',none⟩:Addr).add k=⟨b,off'+k,none⟩:=by unfold Addr.add;split <;> simp_all
    rw [ha,hcc k hlt,hk]
   have hsmall:n+m≤9223372036854775807:=by simp only [maxLen] at h63;omega
   by_cases hroom:n+m≤cap
   ·have hfit:off+n*i.size+0+news.length≤cur.size:=by
     have:(n+m)*i.size≤cap*i.size:=ao2 _ hroom;rw [arc] at this;omega
    have hf:=run_firstCells_some (P:=P) w i.size m a m c news hl hnews;have hst:=run_storeCells_at P g (off+n*i.size) e news 0 cur w hh hfit h1;simp only [arf] at hst;have ha:(⟨g,off,none⟩:Addr).add (n*i.size)=⟨g,off+n*i.size,none⟩:=by unfold Addr.add;split <;> simp_all
    obtain ⟨row,hrow⟩:∃ row:List Value,row=cur.toList.take (off+n*i.size)++news++cur.toList.drop (off+n*i.size+news.length):=⟨_,rfl⟩;rw [← hrow] at hst;refine ⟨.slice (some ⟨g,off,none⟩) (n+m) cap,w.setRow g row.toArray,?_,⟨hlen,.inr ⟨g,off,cap,row.toArray,rfl,hbg,setRow_heap w g cur _ e _ hh,hroom,hcm,?_,?_⟩⟩,(Fr.setRow w g _).mono fun k _ hk=>(by simp [Value.ownBlock,hk]),fun _ hk=> .inl hk⟩
    ·have hn':¬ (cap<n+m):=by omega
     simp [Builtin.append_,run_underlying hu,sizeOf,typeInfo,hj,h2,Builtin.lenOf,hroom,hf,ha,hst]
    ·subst hrow;simp only [apz,am9,anm,aoi,aok];omega
    ·have e1:cur.toList.take (off+n*i.size)=cur.toList.take off++cs:=by
      rw [← htake,List.take_add]
     have hlo:(cur.toList.take off).length=off:=by
      rw [anm,aok];omega
     subst hrow;show ((cur.toList.take (off+n*i.size)++news++_).drop off).take _=_;rw [e1,anh,anh,apy (by omega),aog (by omega),aos,← anh,← hlen];exact List.take_left
   ·have holds:∀ k u,cs[k]? = some u→w.cell? ((⟨g,off,none⟩:Addr).add k)=some u:=by
     intro k u hk;have hlt:k<cs.length:=(ann.1 hk).1;have ha:(⟨g,off,none⟩:Addr).add k=⟨g,off+k,none⟩:=by unfold Addr.add;split <;> simp_all
     rw [ha,cell_of_row w g (off+k) cur e (0,0) hh,← hk,← htake,aoq,if_pos (by rw [← hown.1];exact hlt),aow];simp
    have hr:=run_append_grow (P:=P) w t ty e j i.zero hu hj h4 ⟨g,off,none⟩ n cap cs (by rw [h2];exact hown.1) holds a m c news (by rw [h2];exact hl) hnews (by omega) (by omega) (growslice_fits (by omega) (by rw [h3];exact hbytes));refine ⟨_,_,hr,⟨hlen,.inr ⟨w.heap.size,0,_,_,rfl,hbase,heap_alloc_new w.drew _,grownCap_ge w (n+m) cap e,grownCap_le_maxLen w (n+m) cap e h63,?_,?_⟩⟩,(Fr.drew w).trans (Fr.alloc _ _),fun k hk=> .inr (by simp only [Value.ownBlock,ane] at hk;omega)⟩
    ·have hge:=grownCap_ge w (n+m) cap e;simp only [Array.size_append,apz,size_zeroCells,hz,hown.1,hl,← arc,aob];apply Nat.le_of_eq;congr 1;omega
    ·simp only [Array.toList_append,anh,arn];rw [← anh,← hlen];exact List.take_left

section
variable {P:Program} {tt:Nat→Option TI} [TT P tt] {ro:Option Nat} {N:Nat} {l rest:List Oper} {Q:Exit→Act→World→Prop} {E:List (Nat × Value)} {ds:List Deferred} {b:World} {F G:List SP}
 {d:Nat} {op:Op} {ty:TypeId} {pos:String} {aft:Array Edge} {g:Option (Nat × Bool)} {v:Value}
theorem Rz (hg:da l E g=some false) (hd:Nat.blt d N=true) (h:SO P ro N l rest Q ((d,undef)::E) ds b F):SO P ro N l (⟨some d,op,ty,pos,aft,g⟩::rest) Q E ds b F:=⟨fun w H=>q6 hg hd (h.1 w H)⟩
theorem nq (hg:da l E g=some true) (hx:Pu P E op ty v) (hd:Nat.blt d N=true) (h:SO P ro N l rest Q ((d,v)::E) ds b F):SO P ro N l (⟨some d,op,ty,pos,aft,g⟩::rest) Q E ds b F:=⟨fun w H=>aL hg hx hd (h.1 w H)⟩
theorem aao (k:Nat) {b' o n s:Nat} {i:Int} (hg:da l E g=some true) (hx:ixv tt E op=some (b',o,n,i,s)) (hd:Nat.blt d N=true) (hi:i=(k:Int)) (hk:k<n)
  (h:SO P ro N l rest Q ((d,.pointer (some ⟨b',o+nK k s,none⟩))::E) ds b F):SO P ro N l (⟨some d,op,ty,pos,aft,g⟩::rest) Q E ds b F:=nq hg (nL hx hi hk) hd h
theorem fc (hg:da l E g=some true) (hx:∀ w,Sat b F w→Ex P E op ty w v w) (hd:Nat.blt d N=true) (h:SO P ro N l rest Q ((d,v)::E) ds b F):SO P ro N l (⟨some d,op,ty,pos,aft,g⟩::rest) Q E ds b F:=⟨fun w H=>ek hg (hx w H) hd (h.1 w H)⟩
def wp:List Value→Nat→Nat→Option (List Value)
 | _, 0, 0 => some []
 | [], _, _ => none
 | c :: cs, 0, n + 1 => match wp cs 0 n with
  | some r => some (c :: r)
  | none => none
 | _ :: cs, o + 1, n => wp cs o n
theorem By {cs vs:List Value} {o n:Nat} (h:wp cs o n=some vs):vs.length=n∧∀ j,j<n→cs[o+j]? = vs[j]?:=by
 induction cs generalizing o n vs with
 | nil =>
  cases o <;> cases n <;> simp [wp] at h;subst h;simp
 | cons c cs ih =>
  cases o with
  | zero =>
   cases n with
   | zero => simp [wp] at h; subst h; simp
   | succ n =>
    simp only [wp] at h
    split at h
    ·rename_i r hr
     simp only [ane] at h;subst h;obtain ⟨h1,h2⟩:=ih hr;refine ⟨by simp [h1],fun j hj=> ?_⟩;cases j with
     | zero => simp
     | succ j => have := h2 j (by omega); simpa using this
    ·cases h
  | succ o =>
   have h':wp cs o n=some vs:=by cases n <;> simpa only [wp] using h
   obtain ⟨h1,h2⟩:=ih h';refine ⟨h1,fun j hj=> ?_⟩;have:=h2 j hj;rw [show o+1+j=(o+j)+1 from by omega];simpa using this
theorem M4 {t g' t0 off:Nat} {x:Operand} {i:TI} {cs:List Value} (k:Nat) (ht:tt t=some i) (hagg:ri i.desc=false) (hx:ev E x=some (.pointer (some ⟨g',off,none⟩))) (hF:nth F k=some (pt g' t0 cs)) (hv:nth cs off=some v) :
  ∀ w,Sat b F w→Ex P E (.load t x) ty w v w:=fun w H=>br ht hagg hx (by rw [(H.blk hF).cell off,← lw];exact hv)
theorem Fw {t g' t0 off:Nat} {x:Operand} {i:TI} {cs vs:List Value} (k:Nat) (ht:tt t=some i) (hagg:ri i.desc=true) (hx:ev E x=some (.pointer (some ⟨g',off,none⟩))) (hF:nth F k=some (pt g' t0 cs)) (hv:wp cs off i.size=some vs) :
  ∀ w,Sat b F w→Ex P E (.load t x) ty w (.agg ⟨vs⟩) w:=fun w H=>by
 obtain ⟨h1,h2⟩:=By hv;exact cg ht hagg hx h1 (fun j hj=>by rw [(H.blk hF).cell];exact h2 j (by omega))
theorem yk {t g' t0 off:Nat} {x:Operand} {i:TI} {cs:List Value} (k:Nat) (hg:da l E g=some true) (hop:op = .load t x) (ht:tt t=some i) (hagg:ri i.desc=false) (hx:ev E x=some (.pointer (some ⟨g',off,none⟩))) (hF:nth F k=some (pt g' t0 cs)) (hv:nth cs off=some v)
  (hd:Nat.blt d N=true) (h:SO P ro N l rest Q ((d,v)::E) ds b F):SO P ro N l (⟨some d,op,ty,pos,aft,g⟩::rest) Q E ds b F:=by
 subst hop;exact fc hg (M4 k ht hagg hx hF hv) hd h
theorem du {t g' t0 off:Nat} {x:Operand} {i:TI} {cs vs:List Value} (k:Nat) (hg:da l E g=some true) (hop:op = .load t x) (ht:tt t=some i) (hagg:ri i.desc=true) (hx:ev E x=some (.pointer (some ⟨g',off,none⟩))) (hF:nth F k=some (pt g' t0 cs)) (hv:wp cs off i.size=some vs)
  (hd:Nat.blt d N=true) (h:SO P ro N l rest Q ((d,.agg ⟨vs⟩)::E) ds b F):SO P ro N l (⟨some d,op,ty,pos,aft,g⟩::rest) Q E ds b F:=by
 subst hop;exact fc hg (Fw k ht hagg hx hF hv) hd h
def stO:List Value→Nat→Value→Option (List Value)
 | [], _, _ => none
 | _ :: cs, 0, v => some (v :: cs)
 | c :: cs, o + 1, v => match stO cs o v with
  | some r => some (c :: r)
  | none => none
theorem R4 {cs r:List Value} {o:Nat} {v:Value} (h:stO cs o v=some r):r=cs.set o v∧o<cs.length:=by
 induction cs generalizing o r with
 | nil => simp [stO] at h
 | cons c cs ih =>
  cases o with
  | zero => simp [stO] at h; subst h; simp
  | succ o =>
   simp only [stO] at h
   split at h
   ·rename_i r' hr
    simp only [ane] at h;subst h;obtain ⟨rfl,h2⟩:=ih hr;simp;exact h2
   ·cases h
theorem Bz {w1:World→World→Prop} (hg:da l E g=some true) (hx:∀ w,Sat b F w→∃ w',Eu P E op ty w w'∧Sat b G w') (h:SO P ro N l rest Q E ds b G) :
  SO P ro N l (⟨none,op,ty,pos,aft,g⟩::rest) Q E ds b F:=⟨fun w H=>by
 obtain ⟨w',h1,h2⟩:=hx w H;exact aK hg h1 (h.1 w' h2)⟩
theorem Vr {t g' t0 off:Nat} {x y:Operand} {i:TI} {cs cs':List Value} (k:Nat) (ht:tt t=some i) (hs:i.size=1) (hx:ev E x=some (.pointer (some ⟨g',off,none⟩))) (hy:ev E y=some v) (hv:v.oneCell'=true) (hF:nth F k=some (pt g' t0 cs))
  (hc:stO cs off v=some cs') (hG:jl F k (pt g' t0 cs')=some G):∀ w,Sat b F w→∃ w',Eu P E (.store t x y) ty w w'∧Sat b G w':=fun w H=>by
 obtain ⟨rfl,hlt⟩:=R4 hc;have B:=H.blk hF;exact ⟨_,vp ht hs hx hy hv (u:=cs[off]) (by rw [B.cell off];exact am8 hlt) (B.frozen off),H.write hF (Fr.setCell w ⟨g',off,none⟩ v) (B.set off v) hG⟩
theorem wX {t g' t0 off:Nat} {x y:Operand} {i:TI} {cs cs':List Value} (k:Nat) (hg:da l E g=some true) (hop:op = .store t x y) (ht:tt t=some i) (hs:i.size=1) (hx:ev E x=some (.pointer (some ⟨g',off,none⟩))) (hy:ev E y=some v) (hv:v.oneCell'=true) (hF:nth F k=some (pt g' t0 cs))
  (hc:stO cs off v=some cs') (hG:jl F k (pt g' t0 cs')=some G) (h:SO P ro N l rest Q E ds b G):SO P ro N l (⟨none,op,ty,pos,aft,g⟩::rest) Q E ds b F:=by
 subst hop;exact Bz (w1:=fun _ _=>True) hg (Vr k ht hs hx hy hv hF hc hG) h
def cI:List Value→Nat→List Value→Option (List Value)
 | cs, 0, [] => some cs
 | [], _, _ => none
 | _ :: cs, 0, v :: vs => match cI cs 0 vs with
  | some r => some (v :: r)
  | none => none
 | c :: cs, o + 1, vs => match cI cs o vs with
  | some r => some (c :: r)
  | none => none
theorem M5 {cs vs r:List Value} {o:Nat} (h:cI cs o vs=some r):r=spl cs o vs∧o+vs.length≤cs.length:=by
 induction cs generalizing o vs r with
 | nil => cases o <;> cases vs <;> simp [cI] at h; subst h; simp [spl]
 | cons c cs ih =>
  cases o with
  | zero =>
   cases vs with
   | nil => simp [cI] at h; subst h; simp [spl]
   | cons v vs =>
    simp only [cI] at h
    split at h
    ·rename_i r' hr
     simp only [ane] at h;subst h;obtain ⟨rfl,h2⟩:=ih hr;refine ⟨by simp [spl],by simp;omega⟩
    ·cases h
  | succ o =>
   have h':(match cI cs o vs with | some r=>some (c::r) | none=>none)=some r:=by cases vs <;> simpa only [cI] using h
   split at h'
   ·rename_i r' hr
    simp only [ane] at h';subst h';obtain ⟨rfl,h2⟩:=ih hr;refine ⟨?_,by simp;omega⟩;simp only [spl,List.take_succ_cons,aoe];rw [show o+1+vs.length=(o+vs.length)+1 from by omega,List.drop_succ_cons]
   ·cases h'
def akx:Value→List Value
 | .agg ⟨cs⟩ => cs
 | v => [v]
def su:Value→Option (List Value)
 | .agg ⟨cs⟩ => some cs
 | v => some [v]
theorem vq {v:Value} {cs:List Value} (h:su v=some cs):v.cells.toList=cs:=by
 cases v <;> simp [su] at h <;> first | (subst h;rfl) | (obtain rfl:=h;rfl)
theorem M6 {t g' t0 off:Nat} {x y:Operand} {i:TI} {cs vs cs':List Value} (k:Nat) (ht:tt t=some i) (hx:ev E x=some (.pointer (some ⟨g',off,none⟩))) (hy:ev E y=some v) (hz:su v=some vs) (hs:Nat.beq vs.length i.size=true) (hv:vs.all (·.oneCell')=true) (hF:nth F k=some (pt g' t0 cs))
  (hc:cI cs off vs=some cs') (hG:jl F k (pt g' t0 cs')=some G):∀ w,Sat b F w→∃ w',Eu P E (.store t x y) ty w w'∧Sat b G w':=fun w H=>by
 obtain ⟨rfl,hlt⟩:=M5 hc;have B:=H.blk hF;exact ⟨_,ux (vs:=vs) ht hx hy (vq hz) hs (fun u hu=>an4.1 hv u hu) B (aqb hlt),H.write hF (Fr.setRow _ _ _) B.setRow hG⟩
theorem M7 {t g' t0 off:Nat} {x y:Operand} {i:TI} {cs vs cs':List Value} (k:Nat) (hg:da l E g=some true) (hop:op = .store t x y) (ht:tt t=some i) (hx:ev E x=some (.pointer (some ⟨g',off,none⟩))) (hy:ev E y=some v) (hz:su v=some vs) (hs:Nat.beq vs.length i.size=true) (hv:vs.all (·.oneCell')=true) (hF:nth F k=some (pt g' t0 cs))
  (hc:cI cs off vs=some cs') (hG:jl F k (pt g' t0 cs')=some G) (h:SO P ro N l rest Q E ds b G):SO P ro N l (⟨none,op,ty,pos,aft,g⟩::rest) Q E ds b F:=by
 subst hop;exact Bz (w1:=fun _ _=>True) hg (M6 k ht hx hy hz hs hv hF hc hG) h
theorem fh {t g' t0:Nat} {x y:Operand} {i:TI} {cs vs:List Value} (k:Nat) (hg:da l E g=some true) (hop:op = .store t x y) (ht:tt t=some i) (hx:ev E x=some (.pointer (some ⟨g',0,none⟩))) (hy:ev E y=some (.agg ⟨vs⟩)) (hF:nth F k=some (pt g' t0 cs)) (hG:jl F k (pt g' t0 vs)=some G)
  (hs:vs.length=i.size) (hv:∀ u∈vs,u.oneCell'=true) (hc:vs.length=cs.length) (h:SO P ro N l rest Q E ds b G):SO P ro N l (⟨none,op,ty,pos,aft,g⟩::rest) Q E ds b F:=by
 subst hop;refine Bz (w1:=fun _ _=>True) hg (fun w H=> ?_) h;have B:=H.blk hF;exact ⟨_,x7 (vs:=vs) ht hx hy Z (by rw [hs];exact aqn _) hv B hc,H.write hF (Fr.setRow _ _ _) B.setRow hG⟩
theorem db {t:Nat} {i:TI} {zs:List Value} (hg:da l E g=some true) (hop:op = .alloc t) (ht:tt t=some i) (hz:su i.zero=some zs) (hd:Nat.blt d N=true)
  (h:∀ g',SO P ro N l rest Q ((d,.pointer (some ⟨g',0,none⟩))::E) ds b (pt g' t zs::F)):SO P ro N l (⟨some d,op,ty,pos,aft,g⟩::rest) Q E ds b F:=⟨fun w H=>by
 refine yW hg hop ht hd fun w' B x _=>(h w.heap.size).1 w' ?_
 rw [vq hz] at B;exact H.alloc x B (aoc _)⟩
theorem bx {t:Nat} {x:Operand} {cs:List Value} (hg:da l E g=some true) (hop:op = .box t x) (hx:ev E x=some v) (hz:su v=some cs) (hd:Nat.blt d N=true)
  (h:∀ g',SO P ro N l rest Q ((d,.pointer (some ⟨g',0,none⟩))::E) ds b (pt g' t cs::F)):SO P ro N l (⟨some d,op,ty,pos,aft,g⟩::rest) Q E ds b F:=⟨fun w H=>by
 refine Mz hg hop hx hd fun w' B x _=>(h w.heap.size).1 w' ?_
 rw [vq hz] at B;exact H.alloc x B (aoc _)⟩
theorem ql (us:List Value) {t len e s1 s2:Nat} {z1:Value} {f1:List (Nat × Nat)} {i:TI} {parts:List (Nat × Operand)} (hg:da l E g=some true) (hop:op = .buildSlice t len ⟨parts⟩)
  (ht:tt t=some ⟨.slice e,s1,s2,z1,f1⟩) (he:tt e=some i) (hi:Nat.beq i.size 1=true) (hp:evp E parts=some (Bt 0 us)) (hl:(Nat.beq len us.length&&Nat.ble len 16777216)=true) (h1:us.all (·.oneCell')=true) (hd:Nat.blt d N=true)
  (h:∀ g',SO P ro N l rest Q ((d,.slice (some ⟨g',0,none⟩) len len)::E) ds b (pt g' e us::F)):SO P ro N l (⟨some d,op,ty,pos,aft,g⟩::rest) Q E ds b F:=⟨fun w H =>
 Xx us hg hop ht he hi hp hl h1 hd fun w' B x=>(h w.heap.size).1 w' (H.alloc x B (aoc _))⟩
theorem ef {t e n m sz s1 s2:Nat} {z1:Value} {f1:List (Nat × Nat)} {i:TI} {x y:Operand} {vx:Value} {cs news:List Value} (k:Nat) (hg:da l E g=some true) (hd:Nat.blt d N=true)
  (hop:op = .call ⟨.builtin .append,⟨[x,y]⟩,⟨[t,t]⟩⟩) (ht:tt t=some ⟨.slice e,s1,s2,z1,f1⟩) (he:tt e=some i) (hi:(Nat.beq i.zero.cells.size sz&&Nat.beq i.size sz&&Nat.ble i.bytes 2097152&&Nat.blt 0 sz)=true)
  (hx:ev E x=some v) (hy:ev E y=some vx) (hF:nth F k=some (row e sz v n cs)) (hsl:∀ w,Sat b F w→SL w sz vx m news) (h1:∀ u∈news,u.oneCell'=true) (hn:n+m≤67108864) {Gf:Value→List SP} (hG:∀ v',jl F k (row e sz v' (n+m) (cs++news))=some (Gf v'))
  (h:∀ v',SO P ro N l rest Q ((d,v')::E) ds b (Gf v')):SO P ro N l (⟨some d,op,ty,pos,aft,g⟩::rest) Q E ds b F:=by
 have hi':=hi;simp only [anw] at hi';obtain ⟨⟨⟨h1',h2'⟩,h3'⟩,h4'⟩:=hi';have e1:=an0 h1';have e2:=an0 h2';have e3:=anz h3';have e4:0<sz:=anz h4';subst e2
 constructor
 intro w H;subst hop;have hbytes:(n+m)*i.bytes≤140737488355328:=aoz (aro hn e3) (by decide);obtain ⟨v',w',hrun,ho,hf,hnb⟩:=pH (P:=P) (ty:=ty) ht he e1 e4 (H.oat hF) (hsl w H) h1 (by unfold maxLen;omega) hbytes (anq _);refine ek hg ?_ hd ((h v').1 w' ?_)
 ·intro ρ o hρ hop' hty;subst hty;simp only [execOp,hop',resolve,invoke,builtin,Sem.run_bind,Sem.run_pure,Result.andThen];have e1:Array.map ρ #[x,y] = #[v,vx]:=by simp [hρ _ _ hx,hρ _ _ hy]
  simp only [e1,hrun]
 ·obtain ⟨h3,l3,hA,hn3⟩:=qO ho;refine H.upd k hF hf (fun h4 l4 hA4=> ?_) (hG v');have key:∀ q,v.ownBlock=some q→h4 q≠none:=by
   intro q hq;rcases hA4.2 with ⟨rfl,_⟩ | ⟨g5,off5,cap5,cur5,rfl,hh5,_⟩
   ·cases hq
   ·simp only [Value.ownBlock,ane] at hq;subst hq;rw [hh5];simp
  exact ⟨fun q _ hq=>key q hq,h3,l3,hA,fun q hq=>(hnb q (hn3 q hq).2).imp (key q) id⟩
theorem B4 {t g' off e sz n cap o:Nat} {x y:Operand} {i:TI} {cs vs cs':List Value} (k:Nat) (ht:tt t=some i) (hx:ev E x=some (.pointer (some ⟨g',off,none⟩))) (hy:ev E y=some v) (hz:su v=some vs) (hs:Nat.beq vs.length i.size=true) (hv:∀ u∈vs,u.oneCell'=true)
  {o0:Nat} (hF:nth F k=some (row e sz (.slice (some ⟨g',o0,none⟩) n cap) n cs)) (ho:off=o0+o) (hfit:o+vs.length≤cs.length) (hc:spl cs o vs=cs') (hG:jl F k (row e sz (.slice (some ⟨g',o0,none⟩) n cap) n cs')=some G):∀ w,Sat b F w→∃ w',Eu P E (.store t x y) ty w w'∧Sat b G w':=fun w H=>by
 subst hc;subst ho;have hO:=H.oat hF;rcases hO with ⟨hl,⟨hv0,h0⟩ | ⟨g2,off2,cap2,cur,hv0,_,hh,hnc,hcm,hcs,htk⟩⟩
 ·cases hv0
 simp only [Value.slice.injEq,ane,Addr.mk.injEq,true_and,aq7] at hv0;obtain ⟨⟨rfl,rfl⟩,rfl⟩:=hv0;have hle:n*sz≤cap*sz:=ao2 _ hnc;have hfit2:o0+o+vs.length≤cur.size:=by omega
 refine ⟨_,pE (vs:=vs) ht hx hy (vq hz) hs hv hh hfit2,(H.upd k hF (Fr.setRow w g' _) (fun h4 l4 hA4=> ?_) hG)⟩;have h4g:h4 g'=some (.cells cur e (0,0)):=by
  rcases hA4.2 with ⟨hv4,_⟩ | ⟨g5,off5,cap5,cur5,hv5,hh5,_⟩
  ·cases hv4
  ·simp only [Value.slice.injEq,ane,Addr.mk.injEq] at hv5;obtain ⟨⟨rfl,_⟩,_⟩:=hv5;have:=(l4 _ _ hh5).symm.trans hh;rw [hh5];exact this
 refine ⟨fun q _ hq=>by subst hq;rw [h4g];simp,_,yg (h:=ph _) (setRow_heap w g' cur _ e _ hh),⟨by rw [yd hfit];exact hl,.inr ⟨g',o0,cap,_,rfl,yi g' _,hnc,hcm,?_,?_⟩⟩,fun q hq=> .inl (by rw [yh hq,h4g];simp)⟩
 ·rw [apz,yd (by rw [aok];omega),aok];exact hcs
 ·have e1:cs=(cur.toList.drop o0).take (n*sz):=htk.symm;apply aqy;intro j;have hcl:cur.toList.length=cur.size:=aok;simp only [spl,aoq,aow,List.getElem?_append,anm,am9,aoi,e1];simp only [hcl];by_cases h1:j<n*sz
  ·rw [if_pos h1];by_cases h2:j<o
   ·rw [if_pos (by omega),if_pos (by omega),if_pos (by omega),if_pos h2,if_pos h1]
   ·by_cases h3:j - o<vs.length
    ·rw [if_neg (by omega),if_pos (by omega),if_neg (by omega),if_pos (by omega)];congr 1;omega
    ·rw [if_neg (by omega),if_neg (by omega),if_neg (by omega),if_neg (by omega),if_pos (by omega)];congr 1;omega
  ·rw [if_neg h1,if_neg (by omega),if_neg (by omega),if_neg (by omega)]
theorem ym {t g' off e sz n cap:Nat} {x y:Operand} {i:TI} {cs vs cs':List Value} (k o:Nat) (hg:da l E g=some true) (hop:op = .store t x y) (ht:tt t=some i) (hx:ev E x=some (.pointer (some ⟨g',off,none⟩))) (hy:ev E y=some v) (hz:su v=some vs) (hs:Nat.beq vs.length i.size=true)
  {o0:Nat} (hF:nth F k=some (row e sz (.slice (some ⟨g',o0,none⟩) n cap) n cs)) (hc:spl cs o vs=cs') (hG:jl F k (row e sz (.slice (some ⟨g',o0,none⟩) n cap) n cs')=some G) (ho:off=o0+o) (hfit:o+vs.length≤cs.length) (hv:∀ u∈vs,u.oneCell'=true) (h:SO P ro N l rest Q E ds b G):SO P ro N l (⟨none,op,ty,pos,aft,g⟩::rest) Q E ds b F:=by
 subst hop;exact Bz (w1:=fun _ _=>True) hg (B4 k ht hx hy hz hs hv hF ho hfit hc hG) h
end

section
variable {P:Program} {b:World} {F G:List SP} {f:FuncId} {args:List Value}
def iZ (b:World) (R:Value→List SP→Prop):Ending→World→Prop:=fun e w'=>∃ v F',e = .returned v∧R v F'∧Sat b F' w'
def SC (P:Program) (f:FuncId) (args:List Value) (b:World) (F:List SP) (R:Value→List SP→Prop):Prop:=∀ w,Sat b F w→Calls P f args.toArray w (iZ b R)
theorem SC.ent {R:Value→List SP→Prop} (h:SC P f args b G R) (he:Ent F G):SC P f args b F R:=fun w H=>h w (H.ent he)
theorem SC.mono {R R':Value→List SP→Prop} (h:SC P f args b F R) (hr:∀ v F',R v F'→R' v F'):SC P f args b F R':=fun w H=>(h w H).mono fun _ _ ⟨v,F',h1,h2,h3⟩=>⟨v,F',h1,hr v F' h2,h3⟩
theorem SC.ofExt {v:Value} (h:∀ w,Sat b F w→Calls P f args.toArray w fun e w'=>e = .returned v∧Ext w w'):SC P f args b F (fun u F'=>u=v∧F'=F) :=
 fun w H=>(h w H).mono fun _ _ ⟨h1,h2⟩=>⟨v,F,h1,⟨rfl,rfl⟩,H.ext h2⟩
theorem SC.ofEq {v:Value} (h:∀ w,Sat b F w→Calls P f args.toArray w fun e w'=>e = .returned v∧w=w'):SC P f args b F (fun u F'=>u=v∧F'=F) :=
 fun w H=>(h w H).mono fun _ _ ⟨h1,h2⟩=>⟨v,F,h1,⟨rfl,rfl⟩,h2▸H⟩
theorem SC.ofMade {e sz n:Nat} {cs:List Value} (h:∀ w,Sat b F w→Calls P f args.toArray w fun e' w'=>∃ v,e' = .returned v∧j9 w' w.heap.size e sz v n cs∧Ext w w'):SC P f args b F (fun u F'=>F'=row e sz u n cs::F) :=
 fun w H=>(h w H).mono fun _ _ ⟨v,h1,h2,h3⟩=>⟨v,_,h1,rfl,H.newOat h3 (j9.oat h2)⟩
end
section
variable {P:Program} {ro:Option Nat} {N:Nat} {l rest:List Oper} {Q:Exit→Act→World→Prop} {E:List (Nat × Value)} {ds:List Deferred} {b:World} {F G:List SP}
 {d:Nat} {op:Op} {ty:TypeId} {pos:String} {aft:Array Edge} {g:Option (Nat × Bool)} {v:Value}
theorem bf {f:FuncId} {args:List Value} {R:Value→List SP→Prop} (hg:da l E g=some true) (hx:z5 E op=some (f,args)) [hb:Bodied P f] (hd:Nat.blt d N=true) (hs:SC P f args b F R)
  (h:∀ v F',R v F'→SO P ro N l rest Q ((d,v)::E) ds b F'):SO P ro N l (⟨some d,op,ty,pos,aft,g⟩::rest) Q E ds b F:=⟨fun w H=>iq hg (eh hx) hd ((hs w H).mono fun _ _ ⟨v,F',h1,h2,h3⟩=>⟨v,h1,(h v F' h2).1 _ h3⟩)⟩
theorem bg {f:FuncId} {args:List Value} (hg:da l E g=some true) (hx:z5 E op=some (f,args)) [hb:Bodied P f] (hd:Nat.blt d N=true) (hs:SC P f args b F (fun u F'=>u=v∧F'=F))
  (h:SO P ro N l rest Q ((d,v)::E) ds b F):SO P ro N l (⟨some d,op,ty,pos,aft,g⟩::rest) Q E ds b F :=
 bf hg hx hd hs fun _ _ ⟨h1,h2⟩=>by subst h1;subst h2;exact h
end

section
variable {P:Program} {tt:Nat→Option TI} [TT P tt] {N:Nat} {E:List (Nat × Value)} {b:World} {F G:List SP} {fn:Func} {R:Value→List SP→Prop} {f:FuncId} {c:Code} {args:List Value}
theorem aw (hf:P.funcs[f]? = some fn) (hb:fn.body=some c) (hn:Nat.ble args.length fn.ntmps=true) {E:List (Nat × Value)} (hE:Bm 0 args=E) (h:SW P none fn.ntmps c (bodyPost P fn (iZ b R)) E [] b F):SC P f args b F R :=
 fun w H=>wS hf hb hn (by rw [hE];exact h.1 w H)
inductive Res (tt:Nat→Option TI) (E:List (Nat × Value)) (F:List SP):List ResultVar→List Value→Prop
 | nil : Res tt E F [] []
 | tmp {t : Nat} {v : Value} {rs : List ResultVar} {vs : List Value} (hv : kh E t = some v) (h : Res tt E F rs vs) : Res tt E F (.tmp t :: rs) (v :: vs)
 | agg {t ct g t0 : Nat} {i : TI} {cs us : List Value} {rs : List ResultVar} {vs : List Value} (k : Nat) (hv : kh E t = some (.pointer (some ⟨g, 0, none⟩))) (hF : nth F k = some (pt g t0 cs)) (ht : tt ct = some i) (hagg : ri i.desc = true)
   (hs:wp cs 0 i.size=some us) (h:Res tt E F rs vs):Res tt E F (.cell t ct::rs) (.agg ⟨us⟩::vs)
 | whole {t ct g t0 : Nat} {i : TI} {cs : List Value} {rs : List ResultVar} {vs : List Value} (k : Nat) (hv : kh E t = some (.pointer (some ⟨g, 0, none⟩))) (hF : nth F k = some (pt g t0 cs)) (ht : tt ct = some i) (hagg : ri i.desc = true)
   (hs:cs.length=i.size) (h:Res tt E F rs vs):Res tt E F (.cell t ct::rs) (.agg ⟨cs⟩::vs)
 | cell {t ct g t0 : Nat} {i : TI} {cs : List Value} {v : Value} {rs : List ResultVar} {vs : List Value} (k : Nat) (hv : kh E t = some (.pointer (some ⟨g, 0, none⟩))) (hF : nth F k = some (pt g t0 cs)) (ht : tt ct = some i) (hagg : ri i.desc = false)
   (hs:nth cs 0=some v) (h:Res tt E F rs vs):Res tt E F (.cell t ct::rs) (v::vs)
def pW:List Value→Value
 | [v] => v
 | vs => .tuple ⟨vs⟩
def yY (tmps:Array Value):ResultVar→Sem Value
 | .tmp t => pure (tmps.getD t undef)
 | .cell x t => do loadVar t (← asAddr (tmps.getD x undef))
theorem nP {a:Act} {t ct g:Nat} {u:Value} {w:World} (hv:a.tmps[t]? = some (.pointer (some ⟨g,0,none⟩))) (h:(loadVar ct ⟨g,0,none⟩).run P w = .ok u w):(yY a.tmps (.cell t ct)).run P w = .ok u w:=by
 simp only [yY,apa,hv,aq1,asAddr,Sem.run_bind,Sem.run_pure,Result.andThen,h]
theorem Res.run (P:Program) [TT P tt] {rs:List ResultVar} {vs:List Value} (h:Res tt E F rs vs) {w:World} (H:Sat b F w) {a:Act} (hk:Kn N E a) :
  (rs.mapM (yY a.tmps)).run P w = .ok vs w:=by
 have key:∀ {r:ResultVar} {u:Value} {rs:List ResultVar} {vs:List Value},(yY a.tmps r).run P w = .ok u w→(rs.mapM (yY a.tmps)).run P w = .ok vs w→((r::rs).mapM (yY a.tmps)).run P w = .ok (u::vs) w:=by
  intro r u rs vs h1 h2;simp only [List.mapM_cons,Sem.run_bind,Sem.run_pure,Result.andThen,h1,h2]
 induction h with
 | nil => rfl
 | tmp hv h ih => exact key (by simp only [yY, apa, hk.2 _ _ hv, aq1, Sem.run_pure]) ih
 | agg k hv hF ht hagg hs h ih =>
  obtain ⟨h1,h2⟩:=By hs;exact key (nP (hk.2 _ _ hv) (eG (P:=P) (w:=w) (off:=0) ht hagg (by rw [h1];exact aqn _) (fun j hj=>by rw [aob,(H.blk hF).cell,← h2 j (by omega),aob]))) ih
 | whole k hv hF ht hagg hs h ih =>
  exact key (nP (hk.2 _ _ hv) (eG (P:=P) (w:=w) (off:=0) ht hagg (by rw [hs];exact aqn _) (fun j hj=>by rw [aob,(H.blk hF).cell]))) ih
 | cell k hv hF ht hagg hs h ih =>
  have hc:=((H.blk hF).cell 0).trans ((lw _ _).symm.trans hs);exact key (nP (hk.2 _ _ hv) (by simp [loadVar,sb ht,hagg,run_load,hc])) ih
theorem fw {rs:List ResultVar} {vs:List Value} (hr:fn.results=⟨rs⟩) (hv:Res tt E F rs vs) (he:Ent F G) (h:R (pW vs) G):SN N (bodyPost P fn (iZ b R)) .ret E [] b F:=by
 constructor
 intro w H a hk hd;refine ⟨hd,pW vs,?_,_,_,rfl,h,H.ent he⟩;have h2:=hv.run P H hk;have h3:(results fn a.tmps).run P w=(do let vs ← (⟨rs⟩:Array ResultVar).mapM (yY a.tmps);pure (if h:vs.size=1 then vs[0] else .tuple vs):Sem Value).run P w:=by
  simp only [results,hr]
  rfl
 rw [h3,List.mapM_toArray];simp only [Sem.run_bind,Sem.run_pure,Result.andThen,Sem.run_map,h2]
 match vs with
 | [] => rfl
 | [v] => rfl
 | _ :: _ :: _ => rfl
theorem ar {tt:Nat→Option TI} [TT P tt] {t:Nat} {v:Value} (hr:fn.results=⟨[.tmp t]⟩) (hv:kh E t=some v) (he:Ent F G) (h:R (pW [v]) G):SN N (bodyPost P fn (iZ b R)) .ret E [] b F:=fw (tt:=tt) hr (.tmp hv .nil) he h
theorem fz {tt:Nat→Option TI} [TT P tt] {t u:Nat} {v v':Value} (hr:fn.results=⟨[.tmp t,.tmp u]⟩) (hv:kh E t=some v) (hu:kh E u=some v') (he:Ent F G) (h:R (pW [v,v']) G):SN N (bodyPost P fn (iZ b R)) .ret E [] b F:=fw (tt:=tt) hr (.tmp hv (.tmp hu .nil)) he h
theorem jb {rs:List ResultVar} {vs:List Value} (hr:fn.results=⟨rs⟩) (hv:Res tt E F rs vs) (he:Ent F G) (h:R (pW vs) G):SN N (bodyPost P fn (iZ b R)) .normal E [] b F:=by
 constructor
 intro w H a hk hd;exact (fw hr hv he h).1 w H a hk hd
end
end Go.Eng
namespace Go.Eng
open Go Go.RowKit

section
variable {P:Program} {tt:Nat→Option TI} [TT P tt] {ro:Option Nat} {N:Nat} {fl:Oper→Bool} {l rest:List Oper} {k:Nat} {Q:Exit→Act→World→Prop} {E:List (Nat × Value)} {ds:List Deferred} {b:World} {F0 F G:List SP}
 {d:Nat} {op:Op} {ty:TypeId} {pos:String} {aft:Array Edge} {g:Option (Nat × Bool)} {v:Value}
theorem cn (fl:Oper→Bool) (F0:List SP) [hm:Mixed P] {id:Nat} (hok:aA fl l=true) (he:Ent F F0) (h:SD P fl ro N F0 l 0 l Q E ds b F):SW P ro N (.region id l.toArray true) Q E ds b F:=⟨fun w H=>qc fl (Sat b F0) hok ((H.ext (Fr.drew w)).ent he) (h.1 w.drew (H.ext (Fr.drew w)))⟩
theorem aq (h:SN N Q .normal E ds b F):SD P fl ro N F0 l k [] Q E ds b F:=⟨fun w H=>ov (h.1 w H)⟩
theorem M8 (he:Ent F G) (h:SD P fl ro N F0 l k rest Q E ds b G):SD P fl ro N F0 l k rest Q E ds b F:=⟨fun w H=>h.1 w (H.ent he)⟩
theorem ix {p:Prop} (hp:∀ w,Sat b F w→p) (h:p→SD P fl ro N F0 l k rest Q E ds b F):SD P fl ro N F0 l k rest Q E ds b F:=⟨fun w H=>(h (hp w H)).1 w H⟩
theorem R5 (hg:da l E g=some false) (hd:Nat.blt d N=true) (h:SD P fl ro N F0 l (k+1) rest Q ((d,undef)::E) ds b F):SD P fl ro N F0 l k (⟨some d,op,ty,pos,aft,g⟩::rest) Q E ds b F:=⟨fun w H=>qN hg hd (h.1 w H)⟩
theorem dM (hg:da l E g=some true) (hx:Pu P E op ty v) (hf:fl ⟨some d,op,ty,pos,aft,g⟩=true) (hd:Nat.blt d N=true) (h:SD P fl ro N F0 l (k+1) rest Q ((d,v)::E) ds b F) :
  SD P fl ro N F0 l k (⟨some d,op,ty,pos,aft,g⟩::rest) Q E ds b F:=⟨fun w H=>ie hg hf (fun W _=>hx W) hd (h.1 w H)⟩
theorem ij (hg:da l E g=some true) (hx:∀ w,Sat b F0 w→Ex P E op ty w v w) (hf:fl ⟨some d,op,ty,pos,aft,g⟩=true) (hd:Nat.blt d N=true) (h:SD P fl ro N F0 l (k+1) rest Q ((d,v)::E) ds b F) :
  SD P fl ro N F0 l k (⟨some d,op,ty,pos,aft,g⟩::rest) Q E ds b F:=⟨fun w H=>ie hg hf (fun W hW=>hx W hW) hd (h.1 w H)⟩
theorem rQ {t g' t0 off:Nat} {x:Operand} {i:TI} {cs:List Value} (q:Nat) (hg:da l E g=some true) (hop:op = .load t x) (ht:tt t=some i) (hagg:ri i.desc=false) (hx:ev E x=some (.pointer (some ⟨g',off,none⟩))) (hF:nth F0 q=some (pt g' t0 cs)) (hv:nth cs off=some v)
  (hf:fl ⟨some d,op,ty,pos,aft,g⟩=true) (hd:Nat.blt d N=true) (h:SD P fl ro N F0 l (k+1) rest Q ((d,v)::E) ds b F):SD P fl ro N F0 l k (⟨some d,op,ty,pos,aft,g⟩::rest) Q E ds b F:=by
 subst hop;exact ij hg (M4 q ht hagg hx hF hv) hf hd h
theorem js {t g' t0 off:Nat} {x:Operand} {i:TI} {cs vs:List Value} (q:Nat) (hg:da l E g=some true) (hop:op = .load t x) (ht:tt t=some i) (hagg:ri i.desc=true) (hx:ev E x=some (.pointer (some ⟨g',off,none⟩))) (hF:nth F0 q=some (pt g' t0 cs)) (hv:wp cs off i.size=some vs)
  (hf:fl ⟨some d,op,ty,pos,aft,g⟩=true) (hd:Nat.blt d N=true) (h:SD P fl ro N F0 l (k+1) rest Q ((d,.agg ⟨vs⟩)::E) ds b F):SD P fl ro N F0 l k (⟨some d,op,ty,pos,aft,g⟩::rest) Q E ds b F:=by
 subst hop;exact ij hg (Fw q ht hagg hx hF hv) hf hd h
theorem cz (i:Nat) {u:Value} (v:Value) (hl:kh E i=some u) (he:u=v) (h:SD P fl ro N F0 l k rest Q ((i,v)::E) ds b F):SD P fl ro N F0 l k rest Q E ds b F:=⟨fun w H=>Fk i v hl he (h.1 w H)⟩
theorem yn (i:Nat) {p:Prop} [Decidable p] (hl:kh E i=some (.bool (decide p))) (hp:p) (h:SD P fl ro N F0 l k rest Q ((i,.bool true)::E) ds b F):SD P fl ro N F0 l k rest Q E ds b F:=cz i (.bool true) hl (am7 Value.bool (ani hp)) h
theorem vr (i:Nat) {p:Prop} [Decidable p] (hl:kh E i=some (.bool (decide p))) (hp:¬ p) (h:SD P fl ro N F0 l k rest Q ((i,.bool false)::E) ds b F):SD P fl ro N F0 l k rest Q E ds b F:=cz i (.bool false) hl (am7 Value.bool (ans hp)) h
theorem aap (i:Nat) {p:Prop} [Decidable p] (hl:kh E i=some (.bool (decide p))) (ht:p→SD P fl ro N F0 l k rest Q ((i,.bool true)::E) ds b F) (hf:¬ p→SD P fl ro N F0 l k rest Q ((i,.bool false)::E) ds b F):SD P fl ro N F0 l k rest Q E ds b F:=⟨fun w H=>Xv i hl (fun h=>(ht h).1 w H) (fun h=>(hf h).1 w H)⟩
theorem jt {t:Nat} {i:TI} {zs:List Value} (hg:da l E g=some true) (hf:fl ⟨some d,op,ty,pos,aft,g⟩=false) (hop:op = .alloc t) (ht:tt t=some i) (hz:su i.zero=some zs) (hd:Nat.blt d N=true) (he:Ent F F0)
  (h:∀ g',SD P fl ro N F0 l (k+1) rest Q ((d,.pointer (some ⟨g',0,none⟩))::E) ds b (pt g' t zs::F)):SD P fl ro N F0 l k (⟨some d,op,ty,pos,aft,g⟩::rest) Q E ds b F:=⟨fun w H=>by
 refine Xy hg hf hop ht hd fun w' B x _=> ?_;rw [vq hz] at B;exact ⟨(H.ext x).ent he,(h w.heap.size).1 w' (H.alloc x B (aoc _))⟩⟩
theorem d9 {f:FuncId} {args:List Value} {R:Value→List SP→Prop} (hg:da l E g=some true) (hf:fl ⟨some d,op,ty,pos,aft,g⟩=false) (hx:z5 E op=some (f,args)) [hb:Bodied P f] (hd:Nat.blt d N=true) (hs:SC P f args b F R)
  (h:∀ v F',R v F'→Ent F' F0∧SD P fl ro N F0 l (k+1) rest Q ((d,v)::E) ds b F'):SD P fl ro N F0 l k (⟨some d,op,ty,pos,aft,g⟩::rest) Q E ds b F:=⟨fun w H=>mc hg hf (eh hx) hd ((hs w H).mono fun _ w' ⟨v,F',h1,h2,h3⟩=>⟨v,h1,h3.ent (h v F' h2).1,(h v F' h2).2.1 w' h3⟩)⟩
theorem dh {f:FuncId} {args:List Value} (hg:da l E g=some true) (hf:fl ⟨some d,op,ty,pos,aft,g⟩=false) (hx:z5 E op=some (f,args)) [hb:Bodied P f] (hd:Nat.blt d N=true) (hs:SC P f args b F (fun u F'=>u=v∧F'=F)) (he:Ent F F0)
  (h:SD P fl ro N F0 l (k+1) rest Q ((d,v)::E) ds b F):SD P fl ro N F0 l k (⟨some d,op,ty,pos,aft,g⟩::rest) Q E ds b F :=
 d9 hg hf hx hd hs fun _ _ ⟨h1,h2⟩=>by subst h1;subst h2;exact ⟨he,h⟩
theorem B5 (hg:da l E g=some true) (hf:fl ⟨none,op,ty,pos,aft,g⟩=false) (hx:∀ w,Sat b F w→∃ w',Eu P E op ty w w'∧Sat b G w') (he:Ent G F0) (h:SD P fl ro N F0 l (k+1) rest Q E ds b G) :
  SD P fl ro N F0 l k (⟨none,op,ty,pos,aft,g⟩::rest) Q E ds b F:=⟨fun w H=>by
 obtain ⟨w',h1,h2⟩:=hx w H;exact Br hg hf h1 (h2.ent he) (h.1 w' h2)⟩
theorem aM {t g' t0 off:Nat} {x y:Operand} {i:TI} {cs cs':List Value} (q:Nat) (hg:da l E g=some true) (hf:fl ⟨none,op,ty,pos,aft,g⟩=false) (hop:op = .store t x y) (ht:tt t=some i) (hs:i.size=1) (hx:ev E x=some (.pointer (some ⟨g',off,none⟩))) (hy:ev E y=some v) (hv:v.oneCell'=true) (hF:nth F q=some (pt g' t0 cs))
  (hc:stO cs off v=some cs') (hG:jl F q (pt g' t0 cs')=some G) (he:Ent G F0) (h:SD P fl ro N F0 l (k+1) rest Q E ds b G):SD P fl ro N F0 l k (⟨none,op,ty,pos,aft,g⟩::rest) Q E ds b F:=by
 subst hop;exact B5 hg hf (Vr q ht hs hx hy hv hF hc hG) he h
theorem nQ {t g' t0 off:Nat} {x y:Operand} {i:TI} {cs vs cs':List Value} (q:Nat) (hg:da l E g=some true) (hf:fl ⟨none,op,ty,pos,aft,g⟩=false) (hop:op = .store t x y) (ht:tt t=some i) (hx:ev E x=some (.pointer (some ⟨g',off,none⟩))) (hy:ev E y=some v) (hz:su v=some vs) (hs:Nat.beq vs.length i.size=true) (hv:vs.all (·.oneCell')=true) (hF:nth F q=some (pt g' t0 cs))
  (hc:cI cs off vs=some cs') (hG:jl F q (pt g' t0 cs')=some G) (he:Ent G F0) (h:SD P fl ro N F0 l (k+1) rest Q E ds b G):SD P fl ro N F0 l k (⟨none,op,ty,pos,aft,g⟩::rest) Q E ds b F:=by
 subst hop;exact B5 hg hf (M6 q ht hx hy hz hs hv hF hc hG) he h
theorem jc (fl:Oper→Bool) (n:Nat) (F1 F2:List SP) [hm:Mixed P] {id:Nat} (hn:Nat.ble n l.length=true) (hok:wU fl n l=true) (he:Ent F F1)
  (h:SD P fl ro N F1 l 0 (l.take n) (Q2 P fl ro l (Sat b F2) n Q) E ds b F):SW P ro N (.region id l.toArray true) Q E ds b F:=⟨fun w H=>Bu fl n (Sat b F1) (Sat b F2) hn hok ((H.ext (Fr.drew w)).ent he) (h.1 w.drew (H.ext (Fr.drew w)))⟩
theorem jd {n:Nat} {F2:List SP} (hn:Nat.ble n l.length=true) (he:Ent F F2) (h:SD P fl ro N F2 l n (l.drop n) Q E ds b F):SN N (Q2 P fl ro l (Sat b F2) n Q) .normal E ds b F:=⟨fun w H=>Bv hn (H.ent he) (h.1 w H)⟩
end
end Go.Eng
namespace Go.Eng
open Go Go.RowKit

section
variable {P:Program} {tt:Nat→Option TI} [TT P tt] {E:List (Nat × Value)} {op:Op} {ty:TypeId} {v:Value}
def bnd (E:List (Nat × Value)) (d:Int):Option Operand→Option Int
 | none => some d
 | some y => match ev E y with
  | some (.int _ l) => some l
  | _ => none
def X2 (tt:Nat→Option TI) (E:List (Nat × Value)):Op→Option (Prop × Value)
 | .binOp .add _ x y _ => match ev E x, ev E y with
  | some (.string a), some (.string b) => some ((a.size : Int) + b.size ≤ 9223372036854775807, .string (a ++ b))
  | _, _ => none
 | .slice t x lo hi none => match tt t, ev E x with
  | some ⟨.array n e, _, _, _, _⟩, some (.pointer (some ⟨b, o, none⟩)) => match tt e, bnd E 0 lo, bnd E n hi with
   | some ⟨_, s, _, _, _⟩, some l, some h => some ((0 ≤ h ∧ h ≤ n) ∧ (0 ≤ l ∧ l ≤ h), .slice (some ⟨b, if n = l.toNat then o else o + l.toNat * s, none⟩) (h.toNat - l.toNat) (n - l.toNat))
   | _, _, _ => none
  | _, _ => none
 | _ => none
theorem Fx {P:Program} {w:World} {E:List (Nat × Value)} {ρ:Operand→Value} (hρ:∀ x u,ev E x=some u→ρ x=u) {n:Nat} {l h:Int} {lo hi:Option Operand} (hl:bnd E 0 lo=some l) (hh:bnd E n hi=some h) (hc:(0≤h∧h≤n)∧(0≤l∧l≤h)) :
  (Instr.sliceBounds false n n (lo.map ρ) (hi.map ρ) none).run P w = .ok (l.toNat,h.toNat,n) w:=by
 have h1:∀ {d:Int} {k:Int} {o:Option Operand},bnd E d o=some k→(o=none∧d=k)∨∃ y q,o=some y∧ρ y = .int q k:=by
  intro d k o ho;cases o with
  | none => left; simp [bnd] at ho; exact ⟨rfl, ho⟩
  | some y =>
   right;simp only [bnd] at ho
   split at ho
   ·rename_i q l' hy;simp only [ane] at ho;subst ho;exact ⟨y,_,rfl,hρ _ _ hy⟩
   ·cases ho
 rcases h1 hl with ⟨rfl,rfl⟩ | ⟨y,q,rfl,hy⟩ <;> rcases h1 hh with ⟨rfl,rfl⟩ | ⟨y',q',rfl,hy'⟩
 ·simp [Instr.sliceBounds]
 ·simp [Instr.sliceBounds,hy',oc (P:=P) (k:=q') (i:=h) (y:=n) hc.1]
 ·simp [Instr.sliceBounds,hy,oc (P:=P) (k:=q) (i:=l) (y:=n) (by omega)]
 ·have:(0:Int)≤l∧l≤(h.toNat:Nat):=by omega
  simp [Instr.sliceBounds,hy,hy',oc (P:=P) (k:=q') (i:=h) (y:=n) hc.1,oc (P:=P) (k:=q) (i:=l) (y:=h.toNat) this]
theorem Fy {c:Prop} (h:X2 tt E op=some (c,v)) (hc:c):Pu P E op ty v:=by
 intro w ρ o hρ ho _;unfold X2 at h
 split at h
 ·split at h
  ·rename_i a b h1 h2;simp only [ane,an6] at h;obtain ⟨rfl,rfl⟩:=h
   have:¬ (((a.size+b.size:Nat):Int)>IntKind.i64.max):=by
    have:IntKind.i64.max=9223372036854775807:=rfl;rw [this];omega
   simp only [execOp,ho,hρ _ _ h1,hρ _ _ h2,Sem.run_bind,eC,Result.andThen,binOp,Op.stringOp];rw [if_neg this];rfl
  ·cases h
 ·rename_i t x lo hi
  split at h
  ·rename_i n e s1 s2 z f b o' h1 h2
   split at h
   ·rename_i ed s b1 z1 f1 l hh he hl hhh
    simp only [ane,an6] at h;obtain ⟨rfl,rfl⟩:=h;have hb:=Fx (P:=P) (w:=w) hρ hl hhh hc;simp only [execOp,ho,hρ _ _ h2,Instr.sliceAt,Sem.run_bind,TT.run_und h1 rfl,Result.andThen,Instr.sureAddr,Sem.run_pure,Option.map_none,hb,TT.run_size he];congr 4;by_cases hn:n=l.toNat
    ·simp [hn]
    ·simp only [if_neg hn,Addr.add]
     split
     ·rename_i h0;simp [h0]
     ·rfl
   ·cases h
  ·cases h
 ·cases h
end

theorem VL.at {α:Type} {f:α→Value} {w:World} {bk off n c:Nat} {xs:List α} (h:VL f w (.slice (some ⟨bk,off,none⟩) n c) xs) (i:Nat) (hi:i<xs.length):w.cell? ⟨bk,off+i,none⟩=some (f xs[i]):=by
 obtain ⟨A,c',hv,_,_,_,hcell⟩:=h.op;simp only [Value.slice.injEq] at hv;obtain ⟨bk',off',hA,_,hc⟩:=hcell i hi;obtain ⟨rfl,_,_⟩:=hv;cases hA;exact hc i hi
theorem VL.form {α:Type} {f:α→Value} {w:World} {v:Value} {xs:List α} (h:VL f w v xs):∃ A c,v = .slice A xs.length c∧xs.length≤c∧c≤9223372036854775807∧(A=none→c=0)∧(0<xs.length→∃ bk off,A=some ⟨bk,off,none⟩):=by
 obtain ⟨A,c,h1,h2,h3,h4,hcell⟩:=h.op;exact ⟨A,c,h1,h2,h3,h4,fun hp=>by obtain ⟨bk,off,hA,_⟩:=hcell 0 hp;exact ⟨bk,off,hA⟩⟩
theorem VL.sub {α:Type} {f:α→Value} {w:World} {A A':Option Addr} {n c c' l h:Nat} {xs:List α} (hv:VL f w (.slice A n c) xs) (hlh:l≤h) (hh:h≤xs.length) (hc:h - l≤c') (hm:c'≤9223372036854775807) (hA:l<h→∀ bk off,A=some ⟨bk,off,none⟩→A'=some ⟨bk,off+l,none⟩) (hz:A'=none→c'=0) :
  VL f w (.slice A' (h - l) c') ((xs.take h).drop l):=by
 obtain ⟨A0,c0,h1,h2,h3,h4,hcell⟩:=hv.op;simp only [Value.slice.injEq] at h1;obtain ⟨rfl,_,_⟩:=h1;have hlen:((xs.take h).drop l).length=h - l:=by simp;omega
 refine ⟨A',c',by rw [hlen],by simp,by rw [hlen];exact hc,by unfold maxLen;omega,hz,fun hp=> ?_⟩;rw [hlen] at hp;obtain ⟨bk,off,hA0,hb,hcc⟩:=hcell l (by omega);refine ⟨bk,off+l,hA (by omega) bk off hA0,hb,fun j hj=> ?_⟩;simp only [anf,hlen] at hj;rw [apv,hcc (l+j) (by omega)];rw [apj,aow,aoq,if_pos (by omega),am8 (by omega)]
 rfl
theorem pI {P:Program} {w:World} {v:Value} {xs:List Int} (h:VL (Value.int .u8) w v xs):(Extern.Bytes.bytesOf v).run P w = .ok (strOfNums xs) w:=by
 obtain ⟨A,c,rfl,hn,hm,hz,hcell⟩:=h.op;cases A with
 | none =>
  have:xs = []:=an3 (by have:=hz Z;omega);subst this;rfl
 | some a =>
  rcases aoo xs.length with h0 | h0
  ·have:xs = []:=an3 h0;subst this;rfl
  ·obtain ⟨bk,off,ha,hb,hc⟩:=hcell 0 h0;cases ha;have hl:=Lib.run_loadBytesX (P:=P) w xs ⟨bk,off,none⟩ .empty (fun j x hj=>by
    have hjl:j<xs.length:=(ann.1 hj).1;have e:(⟨bk,off,none⟩:Addr).add j=⟨bk,off+j,none⟩:=by unfold Addr.add;split <;> simp_all
    rw [e,hc j hjl];rw [am8 hjl] at hj;simp only [ane] at hj;rw [hj])
   simp only [Extern.Bytes.bytesOf,hl];congr 1;apply ari;show (#[]:Array UInt8)++_=_;simp [strOfNums,Lib.bytesOf]
theorem R6 {P:Program} {w:World} {v:Value} {xs:List Int} (h:VL (Value.int .u8) w v xs):(Conv.bytesToString v).run P w = .ok (.string (strOfNums xs)) w:=by
 obtain ⟨A,c,rfl,hn,hm,hz,hcell⟩:=h.op;cases A with
 | none =>
  have:xs = []:=an3 (by have:=hz Z;omega);subst this;rfl
 | some a =>
  have hl:(loadCells a xs.length).run P w = .ok (xs.map (Value.int .u8)).toArray w:=by
   rcases aoo xs.length with h0 | h0
   ·have:xs = []:=an3 h0;subst this;exact run_loadCells_list (P:=P) w a [] (fun j u hj=>by simp at hj)
   ·obtain ⟨bk,off,ha,hb,hc⟩:=hcell 0 h0;cases ha;have:=run_loadCells_list (P:=P) w ⟨bk,off,none⟩ (xs.map (Value.int .u8)) (fun j u hj=>by
     have hlt:j<xs.length:=by have:=(ann.1 hj).1;simpa using this
     have e:(⟨bk,off,none⟩:Addr).add j=⟨bk,off+j,none⟩:=by unfold Addr.add;split <;> simp_all
     rw [e,hc j hlt,← hj,apj,am8 hlt];rfl)
    rwa [anf] at this
  rw [run_bytesToString w a xs.length c xs hl,foldl_push_bytes];congr 2;apply ari;show (#[]:Array UInt8)++_=_;simp [strOfNums]

section
variable {P:Program} {tt:Nat→Option TI} [TT P tt] {E:List (Nat × Value)} {ty:TypeId} {w:World}
theorem X3 {src dst e s1 s2 s3 s4 s5 s6:Nat} {z1 z2 z3:Value} {f1 f2 f3:List (Nat × Nat)} {x:Operand} {v:Value} {xs:List Int} (hs:tt src=some ⟨.slice e,s1,s2,z1,f1⟩) (he:tt e=some ⟨.int .u8,s3,s4,z2,f2⟩) (hd:tt dst=some ⟨.string,s5,s6,z3,f3⟩)
  (hx:ev E x=some v) (hv:VL (Value.int .u8) w v xs):Ex P E (.convert src dst x) ty w (.string (strOfNums xs)) w:=by
 intro ρ o hρ ho _;obtain ⟨A,c,hv',_⟩:=hv.op;have:=R6 (P:=P) hv;subst hv';simp only [execOp,ho,hρ _ _ hx,Sem.run_bind];rw [run_convert_bytes_string w src dst e _ _ _ (TT.und _ _ hs Z) (TT.und _ _ he Z) (TT.und _ _ hd Z),this]
 rfl
end

def ptz (g t:Nat) (z:Nat × Nat) (cs:List Value):SP:=fun h=>h g=some (.cells cs.toArray t z)
theorem Sat.ptz_vl {α:Type} {f:α→Value} {b:World} {F:List SP} {w:World} {k g t n c:Nat} {z:Nat × Nat} {cs:List Value} {xs:List α} (h:Sat b F w) (hk:nth F k=some (ptz g t z cs)) (hn:n=xs.length) (hc:n≤c) (hm:c≤9223372036854775807) (hx:∀ j,j<xs.length→cs[j]? = (xs.map f)[j]?) :
  VL f w (.slice (some ⟨g,0,none⟩) n c) xs:=by
 obtain ⟨h1,l,hA⟩:=h.mem.get hk;have hh:=l _ _ hA;refine VL.mk hn hc (by unfold maxLen;omega) (eI hh) fun j hj=> ?_;rw [aob,cell_of_row w g j _ t z hh];have:=hx j hj;rw [apj,am8 hj] at this;simpa using this
theorem Kk (w:World) (a:Addr) (n:Nat):Fr (· = a.block) w (w.freeze a n):=by
 unfold World.freeze
 split
 ·exact Fr.refl _ _
 ·refine ⟨rfl,rfl,rfl,by simp,fun k hk hne=> ?_⟩;simp only [Array.getElem?_modify];rw [if_neg (fun h=>hne h.symm)]

section
variable {P:Program} {tt:Nat→Option TI} [TT P tt] {ro:Option Nat} {N:Nat} {l rest:List Oper} {Q:Exit→Act→World→Prop} {E:List (Nat × Value)} {ds:List Deferred} {b:World} {F F0 G:List SP} {fl:Oper→Bool} {kk:Nat}
 {d:Nat} {op:Op} {ty:TypeId} {pos:String} {aft:Array Edge} {g:Option (Nat × Bool)} {v:Value}
theorem Fz {src dst e s1 s2 s3 s4 s5 s6:Nat} {z1 z2 z3:Value} {f1 f2 f3:List (Nat × Nat)} {x:Operand} {xs:List Int} (hg:da l E g=some true) (hop:op = .convert src dst x) (hs:tt src=some ⟨.slice e,s1,s2,z1,f1⟩) (he:tt e=some ⟨.int .u8,s3,s4,z2,f2⟩) (hd':tt dst=some ⟨.string,s5,s6,z3,f3⟩)
  (hx:ev E x=some v) (hd:Nat.blt d N=true) (hv:∀ w,Sat b F w→VL (Value.int .u8) w v xs) (h:SO P ro N l rest Q ((d,.string (strOfNums xs))::E) ds b F):SO P ro N l (⟨some d,op,ty,pos,aft,g⟩::rest) Q E ds b F:=by
 subst hop;exact fc hg (fun w H=>X3 hs he hd' hx (hv w H)) hd h
def fe (s:ByteArray):List Int:=s.data.toList.map fun x=>(x.toNat:Int)
theorem sf (s:ByteArray):(fe s).length=s.size:=by rw [fe,anf,aok];rfl
theorem M9 {t e g' t0 off n c s1 s2 s3 s4:Nat} {z1 z:Value} {f1 f2:List (Nat × Nat)} {dd:TypeDesc} {x:Operand} {cs:List Value} (k:Nat) (ht:tt t=some ⟨.slice e,s1,s2,z1,f1⟩) (he:tt e=some ⟨dd,s3,s4,z,f2⟩) (hz1:z.oneCell'=true) (hx:ev E x=some (.slice (some ⟨g',off,none⟩) n c)) (hF:nth F k=some (pt g' t0 cs))
  (hfit:off+n≤cs.length) (hG:jl F k (pt g' t0 (spl cs off (List.replicate n z)))=some G):∀ w,Sat b F w→∃ w' u,Ex P E (.call ⟨.builtin .clear,⟨[x]⟩,⟨[t]⟩⟩) ty w u w'∧Sat b G w':=fun w H=>by
 have B:=H.blk hF;have hrun:∃ w' u,(Builtin.clear_ #[t] ty #[.slice (some ⟨g',off,none⟩) n c]).run P w = .ok u w'∧Sat b G w':=by
  rcases aoo n with h0 | h0
  ·subst h0;refine ⟨w,.tuple #[],?_,?_⟩
   ·simp [Builtin.clear_,TT.run_und ht rfl]
   ·have:spl cs off (List.replicate 0 z)=cs:=by simp [spl]
    rw [this] at hG;exact H.ent (q7 k hF (fun _ h=>h) hG)
  ·have hzc:z.cells = #[z]:=by cases z <;> first | rfl | (simp [Value.oneCell'] at hz1)
   have hrun:=Lib.run_clear_slice (P:=P) w t e ty z (TT.und _ _ ht Z) (fun w=>TT.run_zero he w) hzc hz1 g' off n c h0 (fun j hj=>by rw [B.cell,am8 (by omega)];rfl) (fun j hj=>B.frozen _);have hst:=run_storeCells_at P g' off t0 (List.replicate n z) 0 cs.toArray w B (by simpa using hfit) (by intro u hu;rw [List.eq_of_mem_replicate hu];exact hz1);have hst2:=run_storeCells_cells (P:=P) g' off (List.replicate n z) 0 w (by intro j hj;simp at hj;rw [arf,B.cell,am8 (by omega)];rfl) (fun j hj=>B.frozen _) (by intro u hu;rw [List.eq_of_mem_replicate hu];exact hz1);simp only [arf] at hst hst2;rw [hst] at hst2;simp only [Result.ok.injEq,true_and] at hst2;refine ⟨_,_,hrun,?_⟩;rw [← hst2];have e1:(cs.take off++List.replicate n z++cs.drop (off+n))=spl cs off (List.replicate n z):=by simp [spl]
   refine H.write hF (Fr.setRow _ _ _) ?_ hG;have B2:=B.setRow (ds:=spl cs off (List.replicate n z));simpa [spl] using B2
 obtain ⟨w',u,h1,h2⟩:=hrun;refine ⟨w',u,?_,h2⟩;intro ρ o hρ ho hty;subst hty;simp only [execOp,ho,resolve,invoke,builtin,Sem.run_bind,Sem.run_pure,Result.andThen];have e1:Array.map ρ #[x] = #[.slice (some ⟨g',off,none⟩) n c]:=by simp [hρ _ _ hx]
 simp only [e1,h1]
theorem F3 (hg:da l E g=some true) (hx:∀ w,Sat b F w→∃ w' u,Ex P E op ty w u w'∧Sat b G w') (h:SO P ro N l rest Q E ds b G) :
  SO P ro N l (⟨none,op,ty,pos,aft,g⟩::rest) Q E ds b F:=⟨fun w H a hk hds=>by
 obtain ⟨w',u,h1,h2⟩:=hx w H;unfold wpListIn;rw [kz (o:=⟨none,op,ty,pos,aft,g⟩) hk hg];simp only [aq6];have hr:=h1 a.eval ⟨none,op,ty,pos,aft,g⟩ hk.hyp Z Z;refine ⟨fun f _=>kT ro f,?_⟩;rw [vm (by simp) hr];exact h.1 w' h2 _ hk.putNone hds⟩
theorem Na {t e g' t0 off n c s1 s2 s3 s4:Nat} {z1 z:Value} {f1 f2:List (Nat × Nat)} {dd:TypeDesc} {x:Operand} {cs:List Value} (k:Nat) (hg:da l E g=some true) (hop:op = .call ⟨.builtin .clear,⟨[x]⟩,⟨[t]⟩⟩) (ht:tt t=some ⟨.slice e,s1,s2,z1,f1⟩) (he:tt e=some ⟨dd,s3,s4,z,f2⟩) (hz1:z.oneCell'=true) (hx:ev E x=some (.slice (some ⟨g',off,none⟩) n c)) (hF:nth F k=some (pt g' t0 cs))
  (hG:jl F k (pt g' t0 (spl cs off (List.replicate n z)))=some G) (hfit:off+n≤cs.length) (h:SO P ro N l rest Q E ds b G):SO P ro N l (⟨none,op,ty,pos,aft,g⟩::rest) Q E ds b F:=by
 subst hop;exact F3 hg (M9 k ht he hz1 hx hF hfit hG) h
theorem Kl {f:FuncId} {args:List Value} {w w':World} (hx:z5 E op=some (f,args)) (hr:(callFunc f args.toArray).run P w = .ok (.value v) w'):Ex P E op ty w v w':=by
 intro ρ o hρ ho _;unfold z5 at hx
 split at hx
 ·rename_i fo xs at'
  split at hx
  ·rename_i k fs cs vs' h1 h2
   simp only [ane,an6] at hx;obtain ⟨rfl,rfl⟩:=hx;have e1:=hρ _ _ h1;have e4:xs.map ρ=vs'.toArray:=by
    apply aqe;simp [qL hρ _ _ h2]
   have hc:(⟨fs⟩:Array Value)++vs'.toArray++cs=(fs++(vs'++cs.toList)).toArray:=by
    apply aqe;simp
   simp only [execOp,ho,resolve,e1,e4,Deferred.ofValue,invoke,Sem.run_bind,Sem.run_pure,Result.andThen,hc,hr]
  ·cases hx
 ·cases hx
theorem nR {f:FuncId} {args:List Value} (hg:da l E g=some true) (hx:z5 E op=some (f,args)) (hd:Nat.blt d N=true) (hr:∀ w,Sat b F w→(callFunc f args.toArray).run P w = .ok (.value v) w) (h:SO P ro N l rest Q ((d,v)::E) ds b F) :
  SO P ro N l (⟨some d,op,ty,pos,aft,g⟩::rest) Q E ds b F:=fc hg (fun w H=>Kl hx (hr w H)) hd h
theorem R7 {w : World} {f : FuncId} {fn : Func} (hf : P.funcs[f]? = some fn) (hname : (fn.name == "runtime.NumGoroutine") = false) (hb : fn.body.isNone = true) (hn : Extern.findNext fn = none) (he : Extern.find fn = some Extern.BytealgCompare.compare) {va vb : Value} {xs ys : List Int}
  (ha:VL (Value.int .u8) w va xs) (hb':VL (Value.int .u8) w vb ys):(callFunc f #[va,vb]).run P w = .ok (.value (.int .i64 (Lib.compareBytes (xs.map fun n=>UInt8.ofNat n.toNat) (ys.map fun n=>UInt8.ofNat n.toNat)))) w:=by
 rw [run_callFunc_extern hf hname hb hn he];change Result.andThen (Sem.run P (do pure (goInt (Extern.BytealgCompare.cmp (← Extern.Bytes.bytesOf va) (← Extern.Bytes.bytesOf vb)))) w) _=_;simp only [Sem.run_bind,pI ha,pI hb',Result.andThen,Sem.run_pure];rw [Lib.cmp_eq]
 rfl
end
end Go.Eng
namespace Go.Eng
open Go Go.RowKit

theorem dc (F:List SP):Ent F []:=fun _ _=>kZ.nil _
section
variable {P:Program} {tt:Nat→Option TI} [TT P tt] {E:List (Nat × Value)} {op:Op} {ty:TypeId} {v:Value}
def X4 (tt:Nat→Option TI) (E:List (Nat × Value)):Op→Option (Prop × Value)
 | .slice t x none hi none => match tt t, ev E x with
  | some ⟨.slice e, _, _, _, _⟩, some (.slice a n c) => match tt e, hi with
   | some _, some z => match ev E z with
    | some (.int _ h) => some (0 ≤ h ∧ h ≤ c, .slice a h.toNat c)
    | _ => none
   | some _, none => some (True, .slice a n c)
   | none, _ => none
  | _, _ => none
 | _ => none
theorem F4 {c:Prop} (h:X4 tt E op=some (c,v)) (hc:c):Pu P E op ty v:=by
 unfold X4 at h
 split at h
 ·rename_i t x hi
  split at h
  ·rename_i e s1 s2 z f a n c' h1 h2
   have key:∀ k:Nat,(if c'=0 then a else a.map fun x=>x.add (0*k))=a:=by
    intro k;split
    ·rfl
    ·cases a <;> simp [Addr.add]
   split at h
   ·rename_i i z' he
    split at h
    ·rename_i k hh hz
     simp only [ane,an6] at h;obtain ⟨rfl,rfl⟩:=h;have:qZ tt E (.slice t x none (some z') none)=some (0≤hh∧hh≤c',.slice a hh.toNat c'):=by
      obtain ⟨d,s,b,zz,ff⟩:=i;simp only [qZ,h1,h2,he,hz,key,Nat.sub_zero]
     exact uu this hc
    ·cases h
   ·rename_i i he
    simp only [ane,an6] at h;obtain ⟨rfl,rfl⟩:=h;have:qZ tt E (.slice t x none none none)=some (True,.slice a n c'):=by
     obtain ⟨d,s,b,zz,ff⟩:=i;simp only [qZ,h1,h2,he,key,Nat.sub_zero]
    exact uu this hc
   ·cases h
  ·cases h
 ·cases h
variable {ro:Option Nat} {N:Nat} {l rest:List Oper} {Q:Exit→Act→World→Prop} {ds:List Deferred} {b:World} {F F0 G:List SP} {fl:Oper→Bool} {kk:Nat}
 {d:Nat} {pos:String} {aft:Array Edge} {g:Option (Nat × Bool)}
theorem up {p:World→Prop} (h:∀ w,Sat b F w→p w) (he:Ent G F):∀ w,Sat b G w→p w:=fun w H=>h w (H.ent he)
end
end Go.Eng
namespace Go.Eng
open Go Go.RowKit

class ArrI (P:Program) (t:Nat) (n:outParam Nat) (k:outParam IntKind):Prop where
 ex:∃ e i,P.underlying t=some (.array n e)∧P.underlying e=some (.int k)∧P.info? e=some i∧i.size=1
theorem In {P:Program} {t n:Nat} {k:IntKind} [h:ArrI P t n k] {a b:List Int} (ha:a.length=n) (hb:b.length=n) (w:World) :
  (Op.equalIn 10000 t (.agg ⟨a.map (Value.int k)⟩) (.agg ⟨b.map (Value.int k)⟩)).run P w = .ok (decide (a=b)) w:=by
 obtain ⟨e,i,h1,h2,h3,h4⟩:=h.ex;rw [run_equalIn_array w 9999 _ _ h1 h3];have hc:P.cellsOf e=1:=by simp [Program.cellsOf,h3,h4]
 have hp:P.plainKey e=true:=by simp [Program.plainKey,h2]
 rw [hc];have key:∀ m j,j+m=n→(Op.eqItems 9999 e 1 ⟨a.map (Value.int k)⟩ ⟨b.map (Value.int k)⟩ (List.range' j m)).run P w = .ok (decide (a.drop j=b.drop j)) w:=by
  intro m
  induction m with
  | zero =>
   intro j hj;have e1:a.drop j = []:=aog (by omega);have e2:b.drop j = []:=aog (by omega);simp [Op.eqItems,e1,e2]
  | succ m ih =>
   intro j hj;have hja:j<a.length:=by omega
   have hjb:j<b.length:=by omega
   have p1:=run_part_plain (P:=P) w hp (xs:=⟨a.map (Value.int k)⟩) (off:=j) (v:= .int k a[j]) (by simp [hja]);have p2:=run_part_plain (P:=P) w hp (xs:=⟨b.map (Value.int k)⟩) (off:=j) (v:= .int k b[j]) (by simp [hjb]);simp only [aqc,Op.eqItems,aop,Sem.run_bind,p1,p2,Result.andThen_ok,run_equalIn_int w 9998 e k k _ _ h2];have ea:a.drop j=a[j]::a.drop (j+1):=an8 hja;have eb:b.drop j=b[j]::b.drop (j+1):=an8 hjb;by_cases heq:a[j]=b[j]
   ·have:(a[j] == b[j])=true:=by simpa using heq
    simp only [this,Bool.not_true,Bool.false_eq_true,if_false];rw [ih (j+1) (by omega),ea,eb];simp only [apf,heq,true_and]
   ·have:(a[j] == b[j])=false:=by simpa using heq
    simp only [this,Bool.not_false,aq6,Sem.run_pure];rw [ea,eb,ans (fun e=>heq (List.cons.inj e).1)]
 have:=key n 0 (by omega);simpa [List.range_eq_range'] using this

section
variable {P:Program} {tt:Nat→Option TI} [TT P tt] {ro:Option Nat} {N:Nat} {l rest:List Oper} {Q:Exit→Act→World→Prop} {E:List (Nat × Value)} {ds:List Deferred} {b:World} {F F0 G:List SP} {fl:Oper→Bool} {kk:Nat}
 {d:Nat} {op:Op} {ty:TypeId} {pos:String} {aft:Array Edge} {g:Option (Nat × Bool)} {v:Value}
theorem nT {t t' n:Nat} {k:IntKind} {x y:Operand} {as00 bs:List Int} [EqT P t] [ArrI P t n k] (hx:ev E x=some (.agg ⟨as00.map (Value.int k)⟩)) (hy:ev E y=some (.agg ⟨bs.map (Value.int k)⟩)) (ha:as00.length=n) (hb:bs.length=n) :
  Pu P E (.binOp .eql t x y t') ty (.bool (decide (as00=bs))):=jM hx hy (In ha hb)
theorem F5 {t t' n:Nat} {k:IntKind} {x y:Operand} {as00 bs:List Int} [EqT P t] [ArrI P t n k] (hx:ev E x=some (.agg ⟨as00.map (Value.int k)⟩)) (hy:ev E y=some (.agg ⟨bs.map (Value.int k)⟩)) (ha:as00.length=n) (hb:bs.length=n) :
  Pu P E (.binOp .neq t x y t') ty (.bool (!decide (as00=bs))):=sj hx hy (In ha hb)

theorem R8 {t e g' t0 off n c s1 s2 s3 s4:Nat} {z1 z2:Value} {f1 f2:List (Nat × Nat)} {x:Operand} {cs:List Value} (k:Nat) (ht:tt t=some ⟨.slice e,s1,s2,z1,f1⟩) (he:tt e=some ⟨.int .u8,s3,s4,z2,f2⟩) (hx:ev E x=some (.slice (some ⟨g',off,none⟩) n c)) (hF:nth F k=some (pt g' t0 cs))
  (hG:jl F k (ptz g' t0 (cs.length,cs.length+1) cs)=some G):∀ w,Sat b F w→∃ w',Ex P E (.convert t t x) ty w (.slice (some ⟨g',off,none⟩) n c) w'∧Sat b G w':=fun w H=>by
 have B:=H.blk hF;have hsh:w.shape? g'=some (t0,cs.length):=by simp [World.shape?,show w.heap[g']? = _ from B]
 refine ⟨w.freeze ⟨g',cs.length,none⟩ 1,?_,?_⟩
 ·intro ρ o hρ ho _;simp [execOp,ho,hρ _ _ hx,convert,TT.run_und ht rfl,TT.run_und he rfl,markStringish,hsh,Result.andThen]
 ·refine H.upd k hF (Kk w ⟨g',cs.length,none⟩ 1) (fun h1 _ hA=>⟨fun i _ hi=>by dsimp only at hi;subst hi;rw [show h1 _=_ from hA];simp,_,yg (h:=ph _) (o:= .cells cs.toArray t0 (cs.length,cs.length+1)) ?_,yi g' _,fun i hi=> .inl (by rw [yh hi,show h1 g'=_ from hA];simp)⟩) hG;show (w.freeze ⟨g',cs.length,none⟩ 1).heap[g']? = _;have hB:w.heap[g']? = some (.cells cs.toArray t0 (0,0)):=B;simp [World.freeze,Array.getElem?_modify,hB]
theorem R9 {t e g' t0 off n c s1 s2 s3 s4:Nat} {z1 z2:Value} {f1 f2:List (Nat × Nat)} {x:Operand} {cs:List Value} (k:Nat) (hg:da l E g=some true) (hop:op = .convert t t x) (ht:tt t=some ⟨.slice e,s1,s2,z1,f1⟩) (he:tt e=some ⟨.int .u8,s3,s4,z2,f2⟩) (hx:ev E x=some (.slice (some ⟨g',off,none⟩) n c)) (hF:nth F k=some (pt g' t0 cs))
  (hG:jl F k (ptz g' t0 (cs.length,cs.length+1) cs)=some G) (hd:Nat.blt d N=true) (h:SO P ro N l rest Q ((d,.slice (some ⟨g',off,none⟩) n c)::E) ds b G):SO P ro N l (⟨some d,op,ty,pos,aft,g⟩::rest) Q E ds b F:=by
 subst hop
 constructor
 intro w H;obtain ⟨w',h1,h2⟩:=R8 (P:=P) (ty:=ty) k ht he hx hF hG w H;exact ek hg h1 hd (h.1 w' h2)
theorem wY {E:List (Nat × Value)}:∀ {parts:List (Nat × Operand)} {vs:List (Nat × Value)},evp E parts=some vs→(parts.map fun p=>ev E p.2)=vs.map (fun p=>some p.2)∧parts.map (·.1)=vs.map (·.1)
 | [], vs, h => by simp [evp] at h; subst h; simp
 | (k, x) :: parts, vs, h => by
  simp only [evp] at h
  split at h
  ·rename_i v r h1 h2
   cases h;obtain ⟨i1,i2⟩:=wY h2;simp [h1,i1,i2]
  ·cases h
theorem yZ (us:List Value) {t len e s1 s2:Nat} {z1:Value} {f1:List (Nat × Nat)} {i:TI} {parts:List (Nat × Operand)} (hg:da l E g=some true) (hf:fl ⟨some d,op,ty,pos,aft,g⟩=false) (hop:op = .buildSlice t len ⟨parts⟩)
  (ht:tt t=some ⟨.slice e,s1,s2,z1,f1⟩) (he:tt e=some i) (hi:Nat.beq i.size 1=true) (hp:evp E parts=some (Bt 0 us)) (hl:(Nat.beq len us.length&&Nat.ble len 16777216)=true) (h1:us.all (·.oneCell')=true) (hd:Nat.blt d N=true) (hE:Ent F F0)
  (h:∀ g',SD P fl ro N F0 l (kk+1) rest Q ((d,.slice (some ⟨g',0,none⟩) len len)::E) ds b (pt g' e us::F)):SD P fl ro N F0 l kk (⟨some d,op,ty,pos,aft,g⟩::rest) Q E ds b F:=by
 subst hop
 constructor
 intro w H;have hi':=an0 hi;have hl':=hl;simp only [anw] at hl';have hlen:=an0 hl'.1;have hle:=anz hl'.2;have hpp:=wY hp;have hx:=kr (P:=P) (ty:=ty) (w:=w) ht he hpp.1 hpp.2 (len:=len) (cells:=us) (by rw [hi'];omega) (fun z hz=>by
  rw [hi'] at hz ⊢;have:=nN us 0 z (by omega) (fun u hu=>an4.1 h1 u hu);simpa using this)
 have B:=Blk.new w e us;have H':=H.alloc (Fr.alloc w _) B (aoc _);exact kW hg hf hx ((H.ext (Fr.alloc w _)).ent hE) hd ((h w.heap.size).1 _ H')
end
end Go.Eng
namespace Go.Eng
open Go Go.RowKit

section
variable {P:Program} {tt:Nat→Option TI} [TT P tt] {ro:Option Nat} {N:Nat} {l rest:List Oper} {Q:Exit→Act→World→Prop} {E:List (Nat × Value)} {ds:List Deferred} {b:World} {F F0 G:List SP} {fl:Oper→Bool} {kk:Nat}
 {d:Nat} {op:Op} {ty:TypeId} {pos:String} {aft:Array Edge} {g:Option (Nat × Bool)} {v:Value}
theorem Km {t e n m sz s1 s2:Nat} {z1:Value} {f1:List (Nat × Nat)} {i:TI} {x y:Operand} {vx:Value} {cs news:List Value} (k:Nat)
  (ht:tt t=some ⟨.slice e,s1,s2,z1,f1⟩) (he:tt e=some i) (hi:(Nat.beq i.zero.cells.size sz&&Nat.beq i.size sz&&Nat.ble i.bytes 2097152&&Nat.blt 0 sz)=true)
  (hx:ev E x=some v) (hy:ev E y=some vx) (hF:nth F k=some (row e sz v n cs)) (hsl:∀ w,Sat b F w→SL w sz vx m news) (h1:∀ u∈news,u.oneCell'=true) (hn:n+m≤67108864) {Gf:Value→List SP} (hG:∀ v',jl F k (row e sz v' (n+m) (cs++news))=some (Gf v')) :
  ∀ w,Sat b F w→∃ v' w',Ex P E (.call ⟨.builtin .append,⟨[x,y]⟩,⟨[t,t]⟩⟩) ty w v' w'∧Sat b (Gf v') w':=by
 have hi':=hi;simp only [anw] at hi';obtain ⟨⟨⟨h1',h2'⟩,h3'⟩,h4'⟩:=hi';have e1:=an0 h1';have e2:=an0 h2';have e3:=anz h3';have e4:0<sz:=anz h4';subst e2;intro w H;have hbytes:(n+m)*i.bytes≤140737488355328:=aoz (aro hn e3) (by decide);obtain ⟨v',w',hrun,ho,hf,hnb⟩:=pH (P:=P) (ty:=ty) ht he e1 e4 (H.oat hF) (hsl w H) h1 (by unfold maxLen;omega) hbytes (anq _);refine ⟨v',w',?_,?_⟩
 ·intro ρ o hρ hop' hty;subst hty;simp only [execOp,hop',resolve,invoke,builtin,Sem.run_bind,Sem.run_pure,Result.andThen];have e1:Array.map ρ #[x,y] = #[v,vx]:=by simp [hρ _ _ hx,hρ _ _ hy]
  simp only [e1,hrun]
 ·obtain ⟨h3,l3,hA,hn3⟩:=qO ho;refine H.upd k hF hf (fun h4 l4 hA4=> ?_) (hG v');have key:∀ q,v.ownBlock=some q→h4 q≠none:=by
   intro q hq;rcases hA4.2 with ⟨rfl,_⟩ | ⟨g5,off5,cap5,cur5,rfl,hh5,_⟩
   ·cases hq
   ·simp only [Value.ownBlock,ane] at hq;subst hq;rw [hh5];simp
  exact ⟨fun q _ hq=>key q hq,h3,l3,hA,fun q hq=>(hnb q (hn3 q hq).2).imp (key q) id⟩
theorem nU {t e n m sz s1 s2:Nat} {z1:Value} {f1:List (Nat × Nat)} {i:TI} {x y:Operand} {vx:Value} {cs news:List Value} (k:Nat) (hg:da l E g=some true) (hf:fl ⟨some d,op,ty,pos,aft,g⟩=false) (hd:Nat.blt d N=true)
  (hop:op = .call ⟨.builtin .append,⟨[x,y]⟩,⟨[t,t]⟩⟩) (ht:tt t=some ⟨.slice e,s1,s2,z1,f1⟩) (he:tt e=some i) (hi:(Nat.beq i.zero.cells.size sz&&Nat.beq i.size sz&&Nat.ble i.bytes 2097152&&Nat.blt 0 sz)=true)
  (hx:ev E x=some v) (hy:ev E y=some vx) (hF:nth F k=some (row e sz v n cs)) (hsl:∀ w,Sat b F w→SL w sz vx m news) (h1:∀ u∈news,u.oneCell'=true) (hn:n+m≤67108864) {Gf:Value→List SP} (hG:∀ v',jl F k (row e sz v' (n+m) (cs++news))=some (Gf v'))
  (hE:∀ v',Ent (Gf v') F0) (h:∀ v',SD P fl ro N F0 l (kk+1) rest Q ((d,v')::E) ds b (Gf v')):SD P fl ro N F0 l kk (⟨some d,op,ty,pos,aft,g⟩::rest) Q E ds b F:=by
 subst hop
 constructor
 intro w H;obtain ⟨v',w',h2,h3⟩:=Km (P:=P) (ty:=ty) k ht he hi hx hy hF hsl h1 hn hG w H;exact kW hg hf h2 (h3.ent (hE v')) hd ((h v').1 w' h3)
theorem X5 {t:Nat} {x:Operand} {cs:List Value} (hg:da l E g=some true) (hf:fl ⟨some d,op,ty,pos,aft,g⟩=false) (hop:op = .box t x) (hx:ev E x=some v) (hz:su v=some cs) (hd:Nat.blt d N=true) (hE:Ent F F0)
  (h:∀ g',SD P fl ro N F0 l (kk+1) rest Q ((d,.pointer (some ⟨g',0,none⟩))::E) ds b (pt g' t cs::F)):SD P fl ro N F0 l kk (⟨some d,op,ty,pos,aft,g⟩::rest) Q E ds b F:=by
 subst hop
 constructor
 intro w H;have B:=Blk.new w t v.cells.toList;have hb:=rk (P:=P) (E:=E) (ty:=ty) (w:=w) (t:=t) hx;have e1:v.cells.toList.toArray=v.cells:=by simp
 rw [e1] at B;rw [vq hz] at B;have x:Ext w (w.alloc (.cells v.cells t)):=Fr.alloc _ _;exact kW hg hf hb ((H.ext x).ent hE) hd ((h w.heap.size).1 _ (H.alloc x B (aoc _)))
end

theorem df {F:List SP} (e sz:Nat) (h0:0=0*sz):Ent F (row e sz (.slice none 0 0) 0 []::F):=by
 rintro m ⟨H,a,b,c⟩;refine ⟨fun j=>match j with | 0=>fun _=>none | j+1=>H j,fun i=> ?_,fun i j hij=> ?_,fun i A hA=> ?_⟩
 ·cases i with
  | zero => exact fun _ _ e => by cases e
  | succ i => exact a i
 ·cases i with
  | zero => exact fun _ => .inl Z
  | succ i => cases j with
   | zero => exact fun _ => .inr Z
   | succ j => exact b i j (by omega)
 ·cases i with
  | zero => simp only [nth, ane] at hA; subst hA; exact ⟨by simp, .inl ⟨rfl, rfl⟩⟩
  | succ i => exact c i A hA
end Go.Eng
namespace Go.Eng
open Go Go.RowKit

def Sa (tt:Nat→Option TI) (E:List (Nat × Value)) (op:Op):Option Value:=match pev tt E op with
 | some v => some v
 | none => match Rt tt E op with
  | some v => some v
  | none => My tt E op
def lD (tt:Nat→Option TI) (N:Nat) (l:List Oper) (E:List (Nat × Value)):Oper→Option (Nat × Value)
 | ⟨some d, op, _, _, _, g⟩ => match Nat.blt d N, da l E g with
  | true, some true => match Sa tt E op with
   | some v => some (d, v)
   | none => none
  | true, some false => some (d, undef)
  | _, _ => none
 | _ => none
def Sb (tt:Nat→Option TI) (E:List (Nat × Value)) (op:Op):Option (Prop × Value):=match X4 tt E op with
 | some v => some v
 | none => match qZ tt E op with
  | some v => some v
  | none => X2 tt E op
def wZ (tt:Nat→Option TI) (N:Nat) (l:List Oper) (E:List (Nat × Value)):Oper→Option (Nat × Prop × Value)
 | ⟨some d, op, _, _, _, g⟩ => match Nat.blt d N, da l E g with
  | true, some true => match Sb tt E op with
   | some (c, v) => some (d, c, v)
   | none => none
  | _, _ => none
 | _ => none
def ldv (tt:Nat→Option TI) (N:Nat) (l:List Oper) (E:List (Nat × Value)):Oper→Option (Nat × Nat × Nat × Option Nat)
 | ⟨some d, .load t x, _, _, _, g⟩ => match Nat.blt d N, da l E g with
  | true, some true => match tt t, ev E x with
   | some i, some (.pointer (some ⟨b, off, none⟩)) => match ri i.desc with
    | true => some (d, b, off, some i.size)
    | false => some (d, b, off, none)
   | _, _ => none
  | _, _ => none
 | _ => none
def Io (cs:List Value) (off:Nat):Option Nat→Option Value
 | some n => match wp cs off n with
  | some vs => some (.agg ⟨vs⟩)
  | none => none
 | none => nth cs off
def stv (tt:Nat→Option TI) (l:List Oper) (E:List (Nat × Value)):Oper→Option (Nat × Nat × Nat × Value)
 | ⟨none, .store t x y, _, _, _, g⟩ => match da l E g with
  | some true => match tt t, ev E x, ev E y with
   | some i, some (.pointer (some ⟨b, off, none⟩)), some v => some (b, off, i.size, v)
   | _, _, _ => none
  | _ => none
 | _ => none
def F6 (cs:List Value) (off n:Nat) (v:Value):Option (List Value):=match su v with
 | some vs => match Nat.beq vs.length n, vs.all (·.oneCell') with
  | true, true => cI cs off vs
  | _, _ => none
 | none => none

section
variable {P:Program} {tt:Nat→Option TI} [TT P tt] {ro:Option Nat} {N:Nat} {l rest:List Oper} {Q:Exit→Act→World→Prop} {E:List (Nat × Value)} {ds:List Deferred} {b:World} {F F0 G:List SP} {fl:Oper→Bool} {kk:Nat}
 {d:Nat} {v:Value} {o:Oper} {c:Prop} {g' off n t0:Nat} {m:Option Nat} {cs cs':List Value}
theorem rR {op:Op} {ty:TypeId} (h:Sa tt E op=some v):Pu P E op ty v:=by
 unfold Sa at h
 split at h
 ·rename_i h1;cases h;exact x6 h1
 ·split at h
  ·rename_i h1;cases h;exact rH h1
  ·exact uw h
theorem rS {op:Op} {ty:TypeId} (h:Sb tt E op=some (c,v)) (hc:c):Pu P E op ty v:=by
 unfold Sb at h
 split at h
 ·rename_i h1;cases h;exact F4 h1 hc
 ·split at h
  ·rename_i h1;cases h;exact uu h1 hc
  ·exact Fy h hc
theorem xA (h:lD tt N l E o=some (d,v)):∃ op ty pos aft g,o=⟨some d,op,ty,pos,aft,g⟩∧Nat.blt d N=true∧((da l E g=some true∧Sa tt E op=some v)∨(da l E g=some false∧v=undef)):=by
 unfold lD at h
 split at h
 ·split at h
  ·rename_i h1 h2
   split at h
   ·rename_i h3
    simp only [ane,an6] at h;obtain ⟨rfl,rfl⟩:=h;exact ⟨_,_,_,_,_,rfl,h1,.inl ⟨h2,h3⟩⟩
   ·cases h
  ·rename_i h1 h2
   simp only [ane,an6] at h;obtain ⟨rfl,rfl⟩:=h;exact ⟨_,_,_,_,_,rfl,h1,.inr ⟨h2,rfl⟩⟩
  ·cases h
 ·cases h
theorem xB (h:wZ tt N l E o=some (d,c,v)):∃ op ty pos aft g,o=⟨some d,op,ty,pos,aft,g⟩∧Nat.blt d N=true∧da l E g=some true∧Sb tt E op=some (c,v):=by
 unfold wZ at h
 split at h
 ·split at h
  ·rename_i h1 h2
   split at h
   ·rename_i h3
    simp only [ane,an6] at h;obtain ⟨rfl,rfl,rfl⟩:=h;exact ⟨_,_,_,_,_,rfl,h1,h2,h3⟩
   ·cases h
  ·cases h
 ·cases h
theorem Ip (h:ldv tt N l E o=some (d,g',off,m)):∃ t x ty pos aft g i,o=⟨some d,.load t x,ty,pos,aft,g⟩∧Nat.blt d N=true∧da l E g=some true∧tt t=some i∧ev E x=some (.pointer (some ⟨g',off,none⟩)) ∧
  ((ri i.desc=true∧m=some i.size)∨(ri i.desc=false∧m=none)):=by
 unfold ldv at h
 split at h
 ·split at h
  ·rename_i h1 h2
   split at h
   ·rename_i h3 h4
    split at h
    ·rename_i h5
     simp only [ane,an6] at h;obtain ⟨rfl,rfl,rfl,rfl⟩:=h;exact ⟨_,_,_,_,_,_,_,rfl,h1,h2,h3,h4,.inl ⟨h5,rfl⟩⟩
    ·rename_i h5
     simp only [ane,an6] at h;obtain ⟨rfl,rfl,rfl,rfl⟩:=h;exact ⟨_,_,_,_,_,_,_,rfl,h1,h2,h3,h4,.inr ⟨h5,rfl⟩⟩
   ·cases h
  ·cases h
 ·cases h
theorem ae (h1:lD tt N l E o=some (d,v)) (h:SO P ro N l rest Q ((d,v)::E) ds b F):SO P ro N l (o::rest) Q E ds b F:=by
 obtain ⟨op,ty,pos,aft,g,rfl,h2,⟨h3,h4⟩ | ⟨h3,rfl⟩⟩:=xA h1
 ·exact nq h3 (rR h4) h2 h
 ·exact Rz h3 h2 h
theorem am4 {o':Oper} {d':Nat} {v':Value} (h1:lD tt N l E o=some (d,v)) (h2:lD tt N l ((d,v)::E) o'=some (d',v')) (h:SO P ro N l rest Q ((d',v')::(d,v)::E) ds b F):SO P ro N l (o::o'::rest) Q E ds b F:=ae h1 (ae h2 h)
theorem am5 {o' o'':Oper} {d' d'':Nat} {v' v'':Value} (h1:lD tt N l E o=some (d,v)) (h2:lD tt N l ((d,v)::E) o'=some (d',v')) (h3:lD tt N l ((d',v')::(d,v)::E) o''=some (d'',v'')) (h:SO P ro N l rest Q ((d'',v'')::(d',v')::(d,v)::E) ds b F):SO P ro N l (o::o'::o''::rest) Q E ds b F:=ae h1 (ae h2 (ae h3 h))
theorem Ko (h1:wZ tt N l E o=some (d,c,v)) (hc:c) (h:SO P ro N l rest Q ((d,v)::E) ds b F):SO P ro N l (o::rest) Q E ds b F:=by
 obtain ⟨op,ty,pos,aft,g,rfl,h2,h3,h4⟩:=xB h1;exact nq h3 (rS h4 hc) h2 h
theorem ay (h1:lD tt N l E o=some (d,v)) (hf:fl o=true∨da l E o.guard=some false) (h:SD P fl ro N F0 l (kk+1) rest Q ((d,v)::E) ds b F):SD P fl ro N F0 l kk (o::rest) Q E ds b F:=by
 obtain ⟨op,ty,pos,aft,g,rfl,h2,⟨h3,h4⟩ | ⟨h3,rfl⟩⟩:=xA h1
 ·rcases hf with hf | hf
  ·exact dM h3 (rR h4) hf h2 h
  ·rw [h3] at hf;cases hf
 ·exact R5 h3 h2 h
theorem Nb (h1:wZ tt N l E o=some (d,c,v)) (hf:fl o=true) (hc:c) (h:SD P fl ro N F0 l (kk+1) rest Q ((d,v)::E) ds b F):SD P fl ro N F0 l kk (o::rest) Q E ds b F:=by
 obtain ⟨op,ty,pos,aft,g,rfl,h2,h3,h4⟩:=xB h1;exact dM h3 (rS h4 hc) hf h2 h
theorem az (h1:wZ tt N l E o=some (d,c,v)) (h:SO P ro N l rest Q ((d,v)::E) ds b F) (hc:c:=by first | omega | (unfold I64;omega)):SO P ro N l (o::rest) Q E ds b F:=Ko h1 hc h
theorem cq (h1:wZ tt N l E o=some (d,c,v)) (hf:fl o=true) (h:SD P fl ro N F0 l (kk+1) rest Q ((d,v)::E) ds b F) (hc:c:=by first | omega | (unfold I64;omega)):SD P fl ro N F0 l kk (o::rest) Q E ds b F:=Nb h1 hf hc h
theorem Vs {t:Nat} {x:Operand} {i:TI} {ty:TypeId} (k:Nat) (ht:tt t=some i) (hx:ev E x=some (.pointer (some ⟨g',off,none⟩))) (hm:(ri i.desc=true∧m=some i.size)∨(ri i.desc=false∧m=none)) (hF:nth F k=some (pt g' t0 cs)) (hv:Io cs off m=some v) :
  ∀ w,Sat b F w→Ex P E (.load t x) ty w v w:=by
 rcases hm with ⟨h1,rfl⟩ | ⟨h1,rfl⟩
 ·simp only [Io] at hv
  split at hv
  ·rename_i vs hs
   simp only [ane] at hv;subst hv;exact Fw k ht h1 hx hF hs
  ·cases hv
 ·exact M4 k ht h1 hx hF hv
theorem bt (k:Nat) (h1:ldv tt N l E o=some (d,g',off,m)) (hF:nth F k=some (pt g' t0 cs)) (hv:Io cs off m=some v) (h:SO P ro N l rest Q ((d,v)::E) ds b F):SO P ro N l (o::rest) Q E ds b F:=by
 obtain ⟨t,x,ty,pos,aft,g,i,rfl,h2,h3,h4,h5,h6⟩:=Ip h1;exact fc h3 (Vs k h4 h5 h6 hF hv) h2 h
theorem cl (k:Nat) (h1:ldv tt N l E o=some (d,g',off,m)) (hF:nth F0 k=some (pt g' t0 cs)) (hv:Io cs off m=some v) (hf:fl o=true) (h:SD P fl ro N F0 l (kk+1) rest Q ((d,v)::E) ds b F):SD P fl ro N F0 l kk (o::rest) Q E ds b F:=by
 obtain ⟨t,x,ty,pos,aft,g,i,rfl,h2,h3,h4,h5,h6⟩:=Ip h1;exact ij h3 (Vs k h4 h5 h6 hF hv) hf h2 h
theorem Sc (h:stv tt l E o=some (g',off,n,v)):∃ t x y ty pos aft g i,o=⟨none,.store t x y,ty,pos,aft,g⟩∧da l E g=some true∧tt t=some i∧ev E x=some (.pointer (some ⟨g',off,none⟩))∧ev E y=some v∧n=i.size:=by
 unfold stv at h
 split at h
 ·split at h
  ·rename_i h2
   split at h
   ·rename_i h3 h4 h5
    simp only [ane,an6] at h;obtain ⟨rfl,rfl,rfl,rfl⟩:=h;exact ⟨_,_,_,_,_,_,_,_,rfl,h2,h3,h4,h5,rfl⟩
   ·cases h
  ·cases h
 ·cases h
theorem F7 (h:F6 cs off n v=some cs'):∃ vs,su v=some vs∧Nat.beq vs.length n=true∧vs.all (·.oneCell')=true∧cI cs off vs=some cs':=by
 unfold F6 at h
 split at h
 ·split at h
  ·rename_i h1 _ _ h2 h3;exact ⟨_,h1,h2,h3,h⟩
  ·cases h
 ·cases h
theorem eu (k:Nat) (h1:stv tt l E o=some (g',off,n,v)) (hF:nth F k=some (pt g' t0 cs)) (hc:F6 cs off n v=some cs') (hG:jl F k (pt g' t0 cs')=some G) (h:SO P ro N l rest Q E ds b G):SO P ro N l (o::rest) Q E ds b F:=by
 obtain ⟨t,x,y,ty,pos,aft,g,i,rfl,h3,h4,h5,h6,rfl⟩:=Sc h1;obtain ⟨vs,c1,c2,c3,c4⟩:=F7 hc;exact M7 k h3 Z h4 h5 h6 c1 c2 c3 hF c4 hG h
end
end Go.Eng
namespace Go.Eng
open Go Go.RowKit Go.ChangeShapes Go.WideShapes Go.WideMaps

section
variable {H:Type} {enc:TypeId × Value→H} {P:Program} {W:World} {base b0:Nat} {spare:Nat→Bool} {held:Bool} {r:Reach}
end
end Go.Eng
namespace Go.Eng
open Go Go.RowKit Go.MapKept
open Go.ChangeMaps (setBlock heap_setBlock_same heap_setBlock_other)

structure KL (P:Program) (k:Nat):Prop where
 check:∀ (w:World) (em:Bool) {v:Value} {l:Lit},keyOf P k v=some l→(Instr.checkKey em 10000 k v).run P w = .ok () w
 find:∀ (w:World) {x:Value} {lx:Lit},keyOf P k x=some lx→∀ es:List MapEntry,(∀ e∈es,∃ l,keyOf P k e.key=some l) →
  ((Instr.findKey k x es).run P w = .ok none w∧∀ e∈es,e.key≠x)∨∃ j e,(Instr.findKey k x es).run P w = .ok (some (j,e.val)) w∧es[j]? = some e∧e.key=x
 stays:∀ (w:World) {v:Value} {l:Lit},keyOf P k v=some l→(Instr.keyThatStays v v).run P w = .ok v w
theorem KL.of {P:Program} {k:Nat} (h:WideMaps.KeyLaw P k):KL P k:=⟨h.check,h.find,h.stays⟩
structure MK (P:Program) (k:Nat) {α:Type} (K:α→Value) (ok:α→Prop):Prop where
 law:KL P k
 of:∀ a,ok a→∃ l,keyOf P k (K a)=some l
 inj:∀ a b,ok a→ok b→K a=K b→a=b

section
variable {α:Type}
def md [DecidableEq α] (a:α):List (α × Value)→Option Value
 | [] => none
 | x :: l => if x.1 = a then some x.2 else md a l
def sy [DecidableEq α] (a:α) (v:Value):List (α × Value)→List (α × Value)
 | [] => [(a, v)]
 | x :: l => if x.1 = a then (a, v) :: l else x :: sy a v l
def zi [DecidableEq α] (a:α):List (α × Value)→List (α × Value)
 | [] => []
 | x :: l => if x.1 = a then l else x :: zi a l
end
def kvs (es:List MapEntry):List (Value × Value):=es.map fun e=>(e.key,e.val)
def kvl {α:Type} (K:α→Value) (l:List (α × Value)):List (Value × Value):=l.map fun x=>(K x.1,x.2)
def mp (g:Nat) {α:Type} (K:α→Value) (ok:α→Prop) (l:List (α × Value)):SP:=fun h =>
 ∃ es clock,h g=some (.map es clock)∧kvs es.toList=kvl K l∧(∀ x∈l,ok x.1)∧Stamped es clock

section
variable {P:Program} {k g:Nat} {α:Type} {K:α→Value} {ok:α→Prop} {l:List (α × Value)} {a:α} {v:Value} {w:World} {es:Array MapEntry} {clock:Nat}

theorem Sd {es:List MapEntry} {l:List (α × Value)} (he:kvs es=kvl K l) {j:Nat} {e:MapEntry} (h:es[j]? = some e):∃ x,l[j]? = some x∧e.key=K x.1∧e.val=x.2:=by
 have h1:(kvs es)[j]? = some (e.key,e.val):=by simp [kvs,h]
 rw [he] at h1;simp only [kvl,apj,Option.map_eq_some_iff,an6] at h1;obtain ⟨x,hx,h2,h3⟩:=h1;exact ⟨x,hx,h2.symm,h3.symm⟩
theorem aN [DecidableEq α] (M:MK P k K ok) (ha:ok a):∀ {es:List MapEntry} {l:List (α × Value)},kvs es=kvl K l→(∀ e∈es,e.key≠K a)→md a l=none∧∀ v,sy a v l=l ++ [(a,v)]∧zi a l=l
 | [], [], _, _ => ⟨rfl, fun _ => ⟨rfl, rfl⟩⟩
 | [], _ :: _, he, _ => by simp [kvs, kvl] at he
 | _ :: _, [], he, _ => by simp [kvs, kvl] at he
 | e :: es, x :: l, he, hn => by
  simp only [kvs,kvl,ant,apf,an6] at he;have hne:x.1≠a:=fun h=>hn e (by simp) (by rw [he.1.1,h])
  obtain ⟨i1,i2⟩:=aN M ha (es:=es) (l:=l) he.2 (fun e h=>hn e (by simp [h]));exact ⟨by simp [md,hne,i1],fun v=>⟨by simp [sy,hne,(i2 v).1],by simp [zi,hne,(i2 v).2]⟩⟩
theorem aO [DecidableEq α] (M:MK P k K ok) (ha:ok a):∀ {es:List MapEntry} {l:List (α × Value)} {j:Nat} {e:MapEntry},kvs es=kvl K l→(∀ x∈l,ok x.1)→(es.map (·.key)).Nodup→es[j]? = some e→e.key=K a →
  md a l=some e.val∧(∀ v,kvs (es.modify j fun e=> {e with key:=K a,val:=v})=kvl K (sy a v l))∧kvs (es.eraseIdx j)=kvl K (zi a l)
 | [], _, j, e, _, _, _, h, _ => by simp at h
 | _ :: _, [], _, _, he, _, _, _, _ => by simp [kvs, kvl] at he
 | e :: es, x :: l, 0, e0, he, hok, _, h, hk => by
  simp only [List.getElem?_cons_zero,ane] at h;subst h;simp only [kvs,kvl,ant,apf,an6] at he;have hx:x.1=a:=M.inj _ _ (hok x (by simp)) ha (by rw [← he.1.1,hk]);exact ⟨by simp [md,hx,he.1.2],fun v=>by simp [sy,hx,kvs,kvl,he.2],by simp [zi,hx,kvs,kvl,he.2]⟩
 | e :: es, x :: l, j + 1, e0, he, hok, hn, h, hk => by
  simp only [kvs,kvl,ant,apf,an6] at he;simp only [ant,ao6] at hn;simp only [aqz] at h;have hx:x.1≠a:=fun h'=>hn.1 (by rw [he.1.1,h',← hk];exact anb.2 ⟨e0,aqf h,rfl⟩)
  obtain ⟨i1,i2,i3⟩:=aO M ha (es:=es) (l:=l) he.2 (fun x h=>hok x (by simp [h])) hn.2 h hk;refine ⟨by simp [md,hx,i1],fun v=> ?_,?_⟩
  ·have:=i2 v;simp only [kvs,kvl] at this;simp [sy,hx,kvs,kvl,he.1,this]
  ·have:=i3;simp only [kvs,kvl] at this;simp [zi,hx,kvs,kvl,he.1,this]
theorem Iq [DecidableEq α] (ha:ok a):∀ {l:List (α × Value)},(∀ x∈l,ok x.1)→∀ x∈sy a v l,ok x.1
 | [], _, x, hx => by simp [sy] at hx; subst hx; exact ha
 | y :: l, h, x, hx => by
  simp only [sy] at hx
  split at hx
  ·rcases anj.1 hx with rfl | hx
   ·exact ha
   ·exact h x (by simp [hx])
  ·rcases anj.1 hx with rfl | hx
   ·exact h x (by simp)
   ·exact Iq ha (fun z hz=>h z (by simp [hz])) x hx
theorem zA [DecidableEq α]:∀ {l:List (α × Value)},(∀ x∈l,ok x.1)→∀ x∈zi a l,ok x.1
 | [], _, x, hx => by simp [zi] at hx
 | y :: l, h, x, hx => by
  simp only [zi] at hx
  split at hx
  ·exact h x (by simp [hx])
  ·rcases anj.1 hx with rfl | hx
   ·exact h x (by simp)
   ·exact zA (fun z hz=>h z (by simp [hz])) x hx
theorem qP (M:MK P k K ok) {es:List MapEntry} {l:List (α × Value)} (he:kvs es=kvl K l) (hok:∀ x∈l,ok x.1):∀ e∈es,∃ lit,keyOf P k e.key=some lit:=fun e h=>by
 obtain ⟨j,hj⟩:=List.getElem?_of_mem h;obtain ⟨x,hx,h1,_⟩:=Sd he hj;rw [h1];exact M.of _ (hok x (aqf hx))

theorem Kq [DecidableEq α] (M:MK P k K ok) {t e:Nat} {z:Value} (ht:P.underlying t=some (.map k e)) (hz:(zeroValue e).run P w = .ok z w) (hb:w.heap[g]? = some (.map es clock)) (he:kvs es.toList=kvl K l) (hok:∀ x∈l,ok x.1) (hst:Stamped es clock) (ha:ok a) (c:Bool) :
  (Instr.lookup t (.map (some g)) (K a) c).run P w = .ok (if c then .tuple #[(md a l).getD z,.bool (md a l).isSome] else (md a l).getD z) w:=by
 obtain ⟨kl,hkl⟩:=M.of a ha;rcases M.law.find w hkl es.toList (qP M he hok) with ⟨h1,h2⟩ | ⟨j,e0,h1,h2,h3⟩
 ·have:=(aN M ha he h2).1;cases c <;> simp [Instr.lookup,run_underlying ht,MapKept.run_getObj_map hb,M.law.check w _ hkl,h1,hz,Result.andThen,this]
 ·have:=(aO M ha he hok hst.2.2 h2 h3).1;cases c <;> simp [Instr.lookup,run_underlying ht,MapKept.run_getObj_map hb,M.law.check w _ hkl,h1,Result.andThen,this]
theorem Nc [DecidableEq α] (M:MK P k K ok) {t e:Nat} (ht:P.underlying t=some (.map k e)) (hb:w.heap[g]? = some (.map es clock)) (he:kvs es.toList=kvl K l) (hok:∀ x∈l,ok x.1) (hst:Stamped es clock) (ha:ok a) :
  ∃ es' clock',(Instr.mapUpdate t (.map (some g)) (K a) v).run P w = .ok () (setBlock w g (.map es' clock'))∧kvs es'.toList=kvl K (sy a v l)∧Stamped es' clock':=by
 obtain ⟨kl,hkl⟩:=M.of a ha;rcases M.law.find w hkl es.toList (qP M he hok) with ⟨h1,h2⟩ | ⟨j,e0,h1,h2,h3⟩
 ·refine ⟨es.push ⟨K a,v,clock⟩,clock+1,?_,?_,stamped_push hst h2⟩
  ·simp [Instr.mapUpdate,run_underlying ht,MapKept.run_getObj_map hb,M.law.check w false hkl,h1,MapKept.run_setObj_map _ hb,Result.andThen,setBlock]
  ·rw [((aN M ha he h2).2 v).1];simp only [kvs,kvl,Array.toList_push,anu] at he ⊢;rw [he];rfl
 ·have hj:es[j]? = some e0:=by simpa using h2
  have hkeyf:∀ e',es[j]? = some e'→({e' with key:=K a,val:=v}:MapEntry).key=e'.key:=fun e' he'=>by rw [hj] at he';cases he';exact h3.symm
  refine ⟨es.modify j (fun e'=> {e' with key:=K a,val:=v}),clock,?_,?_,stamped_modify hst _ _ (fun _ _=>rfl) (fun e' _ he'=>hkeyf e' he')⟩
  ·simp [Instr.mapUpdate,run_underlying ht,MapKept.run_getObj_map hb,M.law.check w false hkl,h1,hj,h3,M.law.stays w hkl,MapKept.run_setObj_map _ hb,Result.andThen,setBlock]
  ·rw [Array.toList_modify];exact (aO M ha he hok hst.2.2 h2 h3).2.1 v
theorem Nd [DecidableEq α] (M:MK P k K ok) {t e ty:Nat} (ht:P.underlying t=some (.map k e)) (hb:w.heap[g]? = some (.map es clock)) (he:kvs es.toList=kvl K l) (hok:∀ x∈l,ok x.1) (hst:Stamped es clock) (ha:ok a) {t2:Nat} :
  ∃ es',(Builtin.delete_ #[t,t2] ty #[.map (some g),K a]).run P w = .ok (.tuple #[]) (setBlock w g (.map es' clock))∧kvs es'.toList=kvl K (zi a l)∧Stamped es' clock:=by
 obtain ⟨kl,hkl⟩:=M.of a ha;rcases M.law.find w hkl es.toList (qP M he hok) with ⟨h1,h2⟩ | ⟨j,e0,h1,h2,h3⟩
 ·refine ⟨es,?_,?_,hst⟩
  ·simp [Builtin.delete_,run_underlying ht,MapKept.run_getObj_map hb,M.law.check w _ hkl,h1,MapKept.run_setObj_map _ hb,Result.andThen,setBlock]
  ·rw [((aN M ha he h2).2 (.bool true)).2];exact he
 ·have hjs:j<es.size:=by simpa using (ann.1 h2).1
  have hsub:(es.eraseIdxIfInBounds j).toList=es.toList.eraseIdx j:=by
   unfold Array.eraseIdxIfInBounds;rw [dif_pos hjs];simp
  refine ⟨es.eraseIdxIfInBounds j,?_,?_,stamped_erase hst j⟩
  ·simp [Builtin.delete_,run_underlying ht,MapKept.run_getObj_map hb,M.law.check w _ hkl,h1,MapKept.run_setObj_map _ hb,Result.andThen,setBlock]
  ·rw [hsub];exact (aO M ha he hok hst.2.2 h2 h3).2.2
theorem vt {o:Obj} (w:World) (g:Nat):Fr (· = g) w (setBlock w g o) :=
 ⟨rfl,rfl,rfl,by simp [setBlock],fun k _ hne=>by simp only [setBlock];rw [Array.getElem?_setIfInBounds];rw [if_neg (Ne.symm hne)]⟩
theorem eL {o u:Obj} (h:w.heap[g]? = some u):(setBlock w g o).heap[g]? = some o:=by
 have:=(api.1 h).1;simp [setBlock,Array.getElem?_setIfInBounds,this]
end

section
variable {P:Program} {tt:Nat→Option TI} [TT P tt] {ro:Option Nat} {N:Nat} {l rest:List Oper} {Q:Exit→Act→World→Prop} {E:List (Nat × Value)} {ds:List Deferred} {b:World} {F F0 G:List SP} {fl:Oper→Bool} {kk:Nat}
 {d:Nat} {op:Op} {ty:TypeId} {pos:String} {aft:Array Edge} {g:Option (Nat × Bool)} {v:Value}
 {α:Type} {K:α→Value} {ok:α→Prop} {L:List (α × Value)} {a:α}

theorem Sat.mp {w:World} {q gm:Nat} (H:Sat b F w) (hF:nth F q=some (mp gm K ok L)):∃ es clock,w.heap[gm]? = some (.map es clock)∧kvs es.toList=kvl K L∧(∀ x∈L,ok x.1)∧Stamped es clock:=by
 obtain ⟨h1,hl,es,clock,h2,h3⟩:=H.mem.get hF;exact ⟨es,clock,hl _ _ h2,h3⟩
theorem Sat.mpset {w:World} {q gm:Nat} {L':List (α × Value)} {es:Array MapEntry} {clock:Nat} (H:Sat b F w) (hF:nth F q=some (Eng.mp gm K ok L)) (hG:jl F q (Eng.mp gm K ok L')=some G)
  (he:kvs es.toList=kvl K L') (hok:∀ x∈L',ok x.1) (hst:Stamped es clock):Sat b G (setBlock w gm (.map es clock)):=by
 refine H.upd q hF (vt w gm) (fun h1 hl hA=> ?_) hG;obtain ⟨es0,c0,h2,_⟩:=hA;refine ⟨fun i _ hi=>by subst hi;rw [h2];simp,_,yg (h:=ph _) (eL (hl _ _ h2)),⟨es,clock,yi gm _,he,hok,hst⟩,fun i hi=> .inl (by rw [yh hi,h2];simp)⟩

theorem F8 {t:Nat} {w:World}:Ex P E (.makeMap t none) ty w (.map (some w.heap.size)) (w.alloc (.map #[] 0)):=by
 intro ρ o _ ho _;simp [execOp,ho,Instr.makeMap]
theorem yo (K:α→Value) (ok:α→Prop) {t:Nat} (hg:da l E g=some true) (hop:op = .makeMap t none) (hd:Nat.blt d N=true)
  (h:∀ g',SO P ro N l rest Q ((d,.map (some g'))::E) ds b (mp g' K ok ([]:List (α × Value))::F)):SO P ro N l (⟨some d,op,ty,pos,aft,g⟩::rest) Q E ds b F:=by
 subst hop;refine ⟨fun w H=>ek hg F8 hd ((h w.heap.size).1 _ ?_)⟩;refine H.new (Fr.alloc w _) (hn:=one w.heap.size (.map #[] 0)) (yg (h:=ph _) (heap_alloc_new w _)) (fun i hi=>by rw [yh hi];exact aoc _) ⟨#[],0,yi _ _,rfl,by simp,stamped_empty 0⟩

theorem gQ [DecidableEq α] {t k e s1 s2 gm q:Nat} {z1:Value} {f1:List (Nat × Nat)} {i:TI} {m x:Operand} {c:Bool} (M:MK P k K ok) (ht:tt t=some ⟨.map k e,s1,s2,z1,f1⟩) (he:tt e=some i) (hm:ev E m=some (.map (some gm))) (hx:ev E x=some (K a)) (ha:ok a)
  (hF:nth F q=some (mp gm K ok L)):∀ w,Sat b F w→Ex P E (.lookup t m x c) ty w (if c then .tuple #[(md a L).getD i.zero,.bool (md a L).isSome] else (md a L).getD i.zero) w:=fun w H=>by
 obtain ⟨es,clock,h1,h2,h3,h4⟩:=H.mp hF;intro ρ o hρ ho _;have:=Kq (P:=P) M (z:=i.zero) (TT.und (P:=P) _ _ ht Z) (TT.run_zero he w) h1 h2 h3 h4 ha c;simp [execOp,ho,hρ _ _ hm,hρ _ _ hx,this]
theorem Nf [DecidableEq α] {t k e s1 s2 gm q:Nat} {z1:Value} {f1:List (Nat × Nat)} {m x y:Operand} (M:MK P k K ok) (ht:tt t=some ⟨.map k e,s1,s2,z1,f1⟩) (hm:ev E m=some (.map (some gm))) (hx:ev E x=some (K a)) (hy:ev E y=some v) (ha:ok a)
  (hF:nth F q=some (mp gm K ok L)) (hG:jl F q (mp gm K ok (sy a v L))=some G):∀ w,Sat b F w→∃ w',Eu P E (.mapUpdate t m x y) ty w w'∧Sat b G w':=fun w H=>by
 obtain ⟨es,clock,h1,h2,h3,h4⟩:=H.mp hF;obtain ⟨es',clock',h5,h6,h7⟩:=Nc (P:=P) (v:=v) M (TT.und (P:=P) _ _ ht Z) h1 h2 h3 h4 ha;refine ⟨_,?_,H.mpset hF hG h6 (Iq ha h3) h7⟩;intro ρ o hρ ho _;simp [execOp,ho,hρ _ _ hm,hρ _ _ hx,hρ _ _ hy,h5]
theorem X6 [DecidableEq α] {t k e s1 s2 gm q t2:Nat} {z1:Value} {f1:List (Nat × Nat)} {m x:Operand} (M:MK P k K ok) (ht:tt t=some ⟨.map k e,s1,s2,z1,f1⟩) (hm:ev E m=some (.map (some gm))) (hx:ev E x=some (K a)) (ha:ok a)
  (hF:nth F q=some (mp gm K ok L)) (hG:jl F q (mp gm K ok (zi a L))=some G):∀ w,Sat b F w→∃ w',Ex P E (.call {callee:= .builtin .delete,args:=#[m,x],argTypes:=#[t,t2]}) ty w (.tuple #[]) w'∧Sat b G w':=fun w H=>by
 obtain ⟨es,clock,h1,h2,h3,h4⟩:=H.mp hF;obtain ⟨es',h5,h6,h7⟩:=Nd (P:=P) (ty:=ty) (t2:=t2) M (TT.und (P:=P) _ _ ht Z) h1 h2 h3 h4 ha;refine ⟨_,?_,H.mpset hF hG h6 (zA h3) h7⟩;intro ρ o hρ ho hty;simp [execOp,ho,hty,resolve,invoke,builtin,hρ _ _ hm,hρ _ _ hx,h5]
end
end Go.Eng
namespace Go.Eng
open Go Go.RowKit Go.MapKept
open Go.ChangeMaps (setBlock heap_setBlock_same heap_setBlock_other)

def mr (gm gi:Nat) {α:Type} (K:α→Value) (ok:α→Prop) (l R:List (α × Value)) (c:Option (α × Value)):SP:=fun h =>
 ∃ es clock seen,h gm=some (.map es clock)∧h gi=some (.mapIter (some gm) clock seen clock)∧kvs es.toList=kvl K l∧(∀ x∈l,ok x.1)∧Stamped es clock∧kvs (leftOf es seen).toList=kvl K R ∧
  ∀ x,c=some x→∃ e∈es.toList,(∃ s:Array Nat,seen=s.push e.born)∧e.key=K x.1∧e.val=x.2

theorem Kr {α:Type} {K:α→Value} {A B:List MapEntry} {e:MapEntry} {R:List (α × Value)} (h:kvs (A++e::B)=kvl K R):∃ R1 x R2,R=R1++x::R2∧kvs A=kvl K R1∧kvs B=kvl K R2∧e.key=K x.1∧e.val=x.2:=by
 simp only [kvs,kvl,anu,ant] at h;have h':=h.symm;rw [List.map_eq_append_iff] at h';obtain ⟨R1,R3,rfl,h1,h2⟩:=h';rw [List.map_eq_cons_iff] at h2;obtain ⟨x,R2,rfl,h3,h4⟩:=h2;simp only [an6] at h3;exact ⟨R1,x,R2,rfl,h1.symm,h4.symm,h3.1.symm,h3.2.symm⟩
theorem Ks {es:Array MapEntry} {seen:Array Nat} {b:Nat} {A B:List MapEntry} {e:MapEntry} (hn:(es.toList.map (·.born)).Nodup) (hl:(leftOf es seen).toList=A++e::B) (hb:e.born=b):(leftOf es (seen.push b)).toList=A++B:=by
 subst hb;have h1:(leftOf es (seen.push e.born)).toList=(leftOf es seen).toList.filter fun x=> !(x.born == e.born):=by
  simp only [leftOf,Array.toList_filter,aqt];congr 1;funext x;simp only [Array.contains_push,Bool.not_or];rw [Bool.and_comm]
 have hs:((A++e::B).map (·.born)).Nodup:=by
  rw [← hl];simp only [leftOf,Array.toList_filter];exact hn.sublist ((arg).map _)
 rw [h1,hl,aov,aor];simp only [anu,ant,ap8,ao6,anb,anj] at hs;obtain ⟨_,⟨h3,_⟩,h4⟩:=hs;have fA:A.filter (fun x=> !(x.born == e.born))=A:=aom.2 fun x hx=>by
  have:=h4 x.born ⟨x,hx,rfl⟩ e.born Zl;simpa using this
 have fB:B.filter (fun x=> !(x.born == e.born))=B:=aom.2 fun x hx=>by
  have:x.born≠e.born:=fun h=>h3 ⟨x,hx,h⟩
  simpa using this
 simp [fA,fB]

def Ir (P:Program) (t:Nat) (name:String) (f:Nat) (ptr:Bool):Bool :=
 (match P.info? t with
  | some i => match i.methods.find? (·.name == name) with
   | some m => m.path.isEmpty && (match m.func with | some (f', p') => Nat.beq f' f && (p' == ptr) | none => false)
   | none => false
  | none => false) && (match P.underlying t with | some (.pointer _) => true | _ => false)
class MethP (P:Program) (t:Nat) (name:String) (f:outParam Nat):Prop where
 ok:Ir P t name f true=true
 bd:Bodied P f
class MethV (P:Program) (t:Nat) (name:String) (f:outParam Nat):Prop where
 ok:Ir P t name f false=true
 bd:Bodied P f

section
variable {P:Program} {tt:Nat→Option TI} [TT P tt]
theorem Ca {w:World} {t:Nat} {a:Addr} (s m:ByteArray):(Builtin.ssaWrapNilChk_ #[t] t #[.pointer (some a),.string s,.string m]).run P w = .ok (.pointer (some a)) w:=rfl
theorem zB {w:World} {t:Nat} {a:Addr} (s m:String):(Builtin.ssaWrapNilChk_ #[t] t #[.pointer (some a),strVal s,strVal m]).run P w = .ok (.pointer (some a)) w:=rfl
theorem Cb {t f:Nat} {name:String} {ptr:Bool} (h:Ir P t name f ptr=true):∃ i m e,P.info? t=some i∧i.methods.find? (·.name == name)=some m∧m.path = #[]∧m.func=some (f,ptr)∧P.underlying t=some (.pointer e):=by
 unfold Ir at h;simp only [anw] at h;obtain ⟨h1,h2⟩:=h
 split at h1 <;> try contradiction
 rename_i i hi
 split at h1 <;> try contradiction
 rename_i m hm
 simp only [anw] at h1;obtain ⟨h3,h4⟩:=h1
 split at h4 <;> try contradiction
 rename_i f' p' hf
 simp only [anw,beq_iff_eq] at h4
 split at h2 <;> try contradiction
 rename_i e he
 have:=an0 h4.1;subst this;obtain ⟨_,rfl⟩:=h4;exact ⟨i,m,e,hi,hm,by simpa using h3,hf,he⟩
theorem Kt {t f:Nat} {name:String} [h:MethP P t name f] (a:Value) (args:Array Value) (w:World):(callMethod (.iface t a) name args).run P w = .ok (.enter f (#[a]++args)) w:=by
 obtain ⟨i,m,e,h1,h2,h3,h4,h5⟩:=Cb h.ok;have hd:P.types.size+Made.depth=(P.types.size+99)+1:=rfl;have hb:=h.bd.run (#[a]++args) w;have hi:(typeInfo t).run P w = .ok i w:=by simp [typeInfo,h1]
 unfold callMethod;simp only [Sem.run_bind,run_program,Result.andThen];rw [hd];unfold method;simp only [Sem.run_bind,hi,h2,h3,h4,Result.andThen,follow,Sem.run_pure,receiverAt,run_underlying h5,Place.get,hb]
theorem Ku {t f e s1 s2:Nat} {z1:Value} {f1:List (Nat × Nat)} {i:TI} {name:String} [h:MethV P t name f] (ht:tt t=some ⟨.pointer e,s1,s2,z1,f1⟩) (he:tt e=some i) (hagg:ri i.desc=false) {a:Addr} {u:Value} (args:Array Value) {w:World} (hc:w.cell? a=some u) :
  (callMethod (.iface t (.pointer (some a))) name args).run P w = .ok (.enter f (#[u]++args)) w:=by
 obtain ⟨j,m,e',h1,h2,h3,h4,h5⟩:=Cb h.ok;have hd:P.types.size+Made.depth=(P.types.size+99)+1:=rfl;have hb:=h.bd.run (#[u]++args) w;have he':e'=e:=by
  have:=TT.und (P:=P) t _ ht Z;rw [h5] at this;simpa using this
 subst he';have hi:(typeInfo t).run P w = .ok j w:=by simp [typeInfo,h1]
 unfold callMethod;simp only [Sem.run_bind,run_program,Result.andThen];rw [hd];unfold method;simp only [Sem.run_bind,hi,h2,h3,h4,Result.andThen,follow,Sem.run_pure,receiverAt,run_underlying h5,Place.get,Ca];simp [zB,asAddr,loadVar,sb he,hagg,hc,hb]
end

def rT (E:List (Nat × Value)):Op→Option (Nat × Value × String × List Value)
 | .call { callee := .invoke r name, args := xs, argTypes := _ } => match ev E r, evs E xs.toList with
  | some (.iface t v), some vs => some (t, v, name, vs)
  | _, _ => none
 | _ => none
section
variable {P:Program} {tt:Nat→Option TI} [TT P tt] {ro:Option Nat} {N:Nat} {l rest:List Oper} {Q:Exit→Act→World→Prop} {E:List (Nat × Value)} {ds:List Deferred} {b:World} {F F0 G:List SP} {fl:Oper→Bool} {kk:Nat}
 {d:Nat} {op:Op} {ty:TypeId} {pos:String} {aft:Array Edge} {g:Option (Nat × Bool)} {v:Value}
theorem Ng {t f:Nat} {w:World} {name:String} {a:Value} {vs:List Value} {A:Array Value} (h:rT E op=some (t,a,name,vs)) (hr:(callMethod (.iface t a) name vs.toArray).run P w = .ok (.enter f A) w):Ec P E op ty w f A:=by
 intro ρ o hρ ho _;unfold rT at h
 split at h
 ·rename_i r nm xs at'
  split at h
  ·rename_i t' v' vs' h1 h2
   simp only [ane,an6] at h;obtain ⟨rfl,rfl,rfl,rfl⟩:=h;have e1:=hρ _ _ h1;have e4:xs.map ρ=vs'.toArray:=by
    apply aqe;simp [qL hρ _ _ h2]
   have e5:((#[Value.iface t' v']++vs'.toArray).extract 1 (#[Value.iface t' v']++vs'.toArray).size)=vs'.toArray:=by
    apply aqe;simp
   have e6:(#[Value.iface t' v']++vs'.toArray)[0]? = some (Value.iface t' v'):=by simp
   simp only [execOp,ho,resolve,e1,e4,Sem.run_bind,Sem.run_pure,Result.andThen,invoke,e6,e5,hr]
  ·cases h
 ·cases h
theorem Se {t f:Nat} {w:World} {name:String} {a:Value} {vs:List Value} (h:rT E op=some (t,a,name,vs)) [MethP P t name f]:Ec P E op ty w f (a::vs).toArray:=by
 have:=Kt (P:=P) (t:=t) (f:=f) (name:=name) a vs.toArray w;have e : #[a]++vs.toArray=(a::vs).toArray:=by simp
 rw [e] at this;exact Ng h this
theorem Sf {t f e s1 s2 gb t0 q:Nat} {z1:Value} {f1:List (Nat × Nat)} {i:TI} {w:World} {name:String} {u:Value} {off:Nat} {cs vs:List Value} (h:rT E op=some (t,.pointer (some ⟨gb,off,none⟩),name,vs)) [MethV P t name f] (ht:tt t=some ⟨.pointer e,s1,s2,z1,f1⟩) (he:tt e=some i) (hagg:ri i.desc=false)
  (H:Sat b F w) (hF:nth F q=some (pt gb t0 cs)) (hv:nth cs off=some u):Ec P E op ty w f (u::vs).toArray:=by
 have:=Ku (P:=P) (t:=t) (f:=f) (name:=name) ht he hagg (a:=⟨gb,off,none⟩) (u:=u) vs.toArray (w:=w) (by rw [(H.blk hF).cell off,← lw];exact hv);have e1 : #[u]++vs.toArray=(u::vs).toArray:=by simp
 rw [e1] at this;exact Ng h this

theorem lE {t f:Nat} {name:String} {a:Value} {vs:List Value} {R:Value→List SP→Prop} (hg:da l E g=some true) (hx:rT E op=some (t,a,name,vs)) [MethP P t name f] (hd:Nat.blt d N=true) (hs:SC P f (a::vs) b F R)
  (h:∀ v F',R v F'→SO P ro N l rest Q ((d,v)::E) ds b F'):SO P ro N l (⟨some d,op,ty,pos,aft,g⟩::rest) Q E ds b F:=⟨fun w H=>iq hg (Se hx) hd ((hs w H).mono fun _ _ ⟨v,F',h1,h2,h3⟩=>⟨v,h1,(h v F' h2).1 _ h3⟩)⟩
theorem cJ (q:Nat) {t f e s1 s2 gb t0 off:Nat} {z1:Value} {f1:List (Nat × Nat)} {i:TI} {name:String} {u:Value} {cs vs:List Value} {R:Value→List SP→Prop} (hg:da l E g=some true) (hx:rT E op=some (t,.pointer (some ⟨gb,off,none⟩),name,vs)) [MethV P t name f]
  (ht:tt t=some ⟨.pointer e,s1,s2,z1,f1⟩) (he:tt e=some i) (hagg:ri i.desc=false) (hF:nth F q=some (pt gb t0 cs)) (hv:nth cs off=some u) (hd:Nat.blt d N=true) (hs:SC P f (u::vs) b F R)
  (h:∀ v F',R v F'→SO P ro N l rest Q ((d,v)::E) ds b F'):SO P ro N l (⟨some d,op,ty,pos,aft,g⟩::rest) Q E ds b F:=⟨fun w H=>iq hg (Sf hx ht he hagg H hF hv) hd ((hs w H).mono fun _ _ ⟨v,F',h1,h2,h3⟩=>⟨v,h1,(h v F' h2).1 _ h3⟩)⟩
theorem vu (q:Nat) {t f e s1 s2 gb t0 off:Nat} {z1:Value} {f1:List (Nat × Nat)} {i:TI} {name:String} {u:Value} {cs vs:List Value} (hg:da l E g=some true) (hx:rT E op=some (t,.pointer (some ⟨gb,off,none⟩),name,vs)) [MethV P t name f]
  (ht:tt t=some ⟨.pointer e,s1,s2,z1,f1⟩) (he:tt e=some i) (hagg:ri i.desc=false) (hF:nth F q=some (pt gb t0 cs)) (hv:nth cs off=some u) (hd:Nat.blt d N=true) (hs:SC P f (u::vs) b F (fun u F'=>u=v∧F'=F))
  (h:SO P ro N l rest Q ((d,v)::E) ds b F):SO P ro N l (⟨some d,op,ty,pos,aft,g⟩::rest) Q E ds b F:=cJ q hg hx ht he hagg hF hv hd hs fun _ _ ⟨h1,h2⟩=>by subst h1;subst h2;exact h

theorem Vt {t t':Nat} {i:TI} {x:Operand} (hx:ev E x=some (.iface t v)) (ht:tt t=some i) (hi:o5 i.desc=false):Pu P E (.typeAssert x t' t false) ty v:=by
 intro w ρ o hρ ho _;have hu:∃ D,P.underlying t=some D∧o5 D=false:=by
  by_cases hs:eB i.desc=true
  ·obtain ⟨fs,h1,_⟩:=TT.st (P:=P) t i ht hs;exact ⟨_,h1,rfl⟩
  ·exact ⟨_,TT.und (P:=P) t i ht (by simpa using hs),hi⟩
 obtain ⟨D,h1,h2⟩:=hu;have hr:(Instr.typeAssert (.iface t v) t' t false).run P w = .ok v w:=by
  unfold Instr.typeAssert;simp only [Sem.run_bind,run_underlying h1,Result.andThen];cases D <;> first | (simp [o5] at h2;done) | simp
 simp [execOp,ho,hρ _ _ hx,hr]
theorem aaq {t t':Nat} {i:TI} {x:Operand} (hg:da l E g=some true) (hop:op = .typeAssert x t' t false) (hx:ev E x=some (.iface t v)) (ht:tt t=some i) (hi:o5 i.desc=false) (hd:Nat.blt d N=true) (h:SO P ro N l rest Q ((d,v)::E) ds b F) :
  SO P ro N l (⟨some d,op,ty,pos,aft,g⟩::rest) Q E ds b F:=by subst hop;exact nq hg (Vt hx ht hi) hd h

variable {α:Type} {K:α→Value} {ok:α→Prop} {L R:List (α × Value)} {c:Option (α × Value)}
theorem Cc (q:Nat) {t k e s1 s2 gm:Nat} {z1:Value} {f1:List (Nat × Nat)} {x:Operand} {G:Nat→List SP} (hg:da l E g=some true) (hop:op = .range t x) (ht:tt t=some ⟨.map k e,s1,s2,z1,f1⟩) (hx:ev E x=some (.map (some gm))) (hF:nth F q=some (mp gm K ok L))
  (hG:∀ gi,jl F q (mr gm gi K ok L L none)=some (G gi)) (hd:Nat.blt d N=true) (h:∀ gi,SO P ro N l rest Q ((d,.pointer (some ⟨gi,0,none⟩))::E) ds b (G gi)):SO P ro N l (⟨some d,op,ty,pos,aft,g⟩::rest) Q E ds b F:=by
 subst hop
 constructor
 intro w H;obtain ⟨es,clock,h1,h2,h3,h4⟩:=H.mp hF;have hu:=TT.und (P:=P) _ _ ht Z;have hr:Ex P E (.range t x) ty w (.pointer (some ⟨w.heap.size,0,none⟩)) (w.alloc (.mapIter (some gm) clock #[] clock)):=by
  intro ρ o hρ ho _;simp [execOp,ho,hρ _ _ hx,Instr.range,run_underlying hu,MapKept.run_getObj_map h1,Result.andThen]
 refine ek hg hr hd <| (h w.heap.size).1 _ <| H.upd q hF (Fr.alloc (S:=rC) w _) (fun m1 hl hA=> ?_) (hG _);obtain ⟨es0,c0,e1,_⟩:=hA;have hgm:gm<w.heap.size:=eI (hl _ _ e1);refine ⟨fun _ _ hi=>hi.elim,fun i=>if i=gm then some (.map es clock) else if i=w.heap.size then some (.mapIter (some gm) clock #[] clock) else none,fun i o hi=> ?_,⟨es,clock,#[],by simp,by simp [Nat.ne_of_gt hgm],h2,h3,h4,?_,fun x hx=>by cases hx⟩,fun i hi=> ?_⟩
 ·dsimp only at hi
  split at hi
  ·rename_i e2;subst e2;cases hi
   exact (Below.heap_alloc w _ _ hgm).trans h1
  ·split at hi
   ·rename_i e2;subst e2;cases hi;exact heap_alloc_new w _
   ·cases hi
 ·have:leftOf es #[]=es:=by simp [leftOf]
  rw [this];exact h2
 ·dsimp only at hi
  split at hi
  ·rename_i e2;subst e2;left;rw [e1];simp
  ·split at hi
   ·rename_i e2;right;omega
   ·exact absurd Z hi
theorem Sg {w:World} {gi:Nat} {o u:Obj} (h:w.heap[gi]? = some u):ph (setBlock w gi o) gi=some o:=eL h
theorem It (q:Nat) {gm gi:Nat} {x:Operand} {G:List (α × Value)→(α × Value)→List (α × Value)→List SP} (hg:da l E g=some true) (hop:op = .next x false) (hx:ev E x=some (.pointer (some ⟨gi,0,none⟩))) (hF:nth F q=some (mr gm gi K ok L R c))
  (hG:∀ R1 y R2,jl F q (mr gm gi K ok L (R1++R2) (some y))=some (G R1 y R2)) (hd:Nat.blt d N=true) (h0:R = []→SO P ro N l rest Q ((d,.tuple ⟨[.bool false]⟩)::E) ds b F)
  (h1:∀ R1 y R2,R=R1++y::R2→SO P ro N l rest Q ((d,.tuple ⟨[.bool true,K y.1,y.2]⟩)::E) ds b (G R1 y R2)):SO P ro N l (⟨some d,op,ty,pos,aft,g⟩::rest) Q E ds b F:=by
 subst hop
 constructor
 intro w H;obtain ⟨m1,hl,es,clock,seen,a1,a2,a3,a4,a5,a6,a7⟩:=H.mem.get hF;have b1:w.heap[gm]? = some (.map es clock):=hl _ _ a1;have b2:w.heap[gi]? = some (.mapIter (some gm) clock seen clock):=hl _ _ a2;rcases run_next_at (P:=P) w ty gi gm clock clock seen es clock b2 b1 a5.1 (aoc _) with ⟨e0,e1⟩ | ⟨e,he,w1,hw,e1⟩
 ·have hx':Ex P E (.next x false) ty w (.tuple ⟨[.bool false]⟩) w:=by
   intro ρ o hρ ho hty;simp [execOp,ho,hρ _ _ hx,hty,e1]
  have hR:R = []:=by
   have:(leftOf es seen).toList = []:=by simpa using Array.eq_empty_of_size_eq_zero e0
   rw [this] at a6;cases R with
   | nil => rfl
   | cons _ _ => simp [kvs, kvl] at a6
  exact ek hg hx' hd ((h0 hR).1 w H)
 ·obtain ⟨A,B,hAB⟩:=ao3 he;obtain ⟨R1,y,R2,hR,r1,r2,r3,r4⟩:=Kr (K:=K) (R:=R) (by rw [← hAB];exact a6);have hx':Ex P E (.next x false) ty w (.tuple ⟨[.bool true,K y.1,y.2]⟩) (setBlock w1 gi (.mapIter (some gm) clock (seen.push e.born) clock)):=by
   intro ρ o hρ ho hty;simp [execOp,ho,hρ _ _ hx,hty,e1,r3,r4]
  refine ek hg hx' hd <| (h1 R1 y R2 hR).1 _ ?_;have x1:Ext w w1:=by
   rcases hw with rfl | rfl
   ·exact Fr.refl _ _
   ·exact Fr.drew _
  have H1:=H.ext x1;have hne:gi≠gm:=fun h=>by rw [h,b1] at b2;cases b2
  have hmem:=(mem_left he).1;have hw1:∀ i o,ph w i=some o→ph w1 i=some o:=fun i o hi=>by rcases hw with rfl | rfl <;> exact hi
  refine H1.upd q hF (vt w1 gi) (fun m2 hl2 hA=> ?_) (hG R1 y R2);obtain ⟨es',c',s',q1,q2,_⟩:=hA;refine ⟨fun i _ hi=>by subst hi;rw [q2];simp,fun i=>if i=gm then some (.map es clock) else if i=gi then some (.mapIter (some gm) clock (seen.push e.born) clock) else none,fun i o hi=> ?_,⟨es,clock,seen.push e.born,by simp,by simp [hne],a3,a4,a5,?_,fun z hz=> ?_⟩,fun i hi=> ?_⟩
  ·dsimp only at hi
   split at hi
   ·rename_i e2;subst e2;cases hi
    show (setBlock w1 gi _).heap[i]? = _;rw [(vt (o:= .mapIter (some i) clock (seen.push e.born) clock) w1 gi).keep i (eI (hw1 _ _ b1)) (Ne.symm hne)];exact hw1 _ _ b1
   ·split at hi
    ·rename_i e2;subst e2;cases hi;exact Sg (hw1 _ _ b2)
    ·cases hi
  ·rw [Ks a5.2.1 hAB rfl];simp only [kvs,kvl,anu] at r1 r2 ⊢;rw [r1,r2]
  ·cases hz;exact ⟨e,hmem,⟨seen,rfl⟩,r3,r4⟩
  ·dsimp only at hi
   split at hi
   ·rename_i e2;subst e2;left;rw [q1];simp
   ·split at hi
    ·rename_i e2;subst e2;left;rw [q2];simp
    ·exact absurd Z hi
theorem Cd (q:Nat) {gm gi:Nat} {x:Operand} {y:α × Value} (hg:da l E g=some true) (hop:op = .entry x) (hx:ev E x=some (.pointer (some ⟨gi,0,none⟩))) (hF:nth F q=some (mr gm gi K ok L R (some y))) (hd:Nat.blt d N=true)
  (h:SO P ro N l rest Q ((d,.tuple ⟨[K y.1,y.2]⟩)::E) ds b F):SO P ro N l (⟨some d,op,ty,pos,aft,g⟩::rest) Q E ds b F:=by
 subst hop;refine fc hg (fun w H=> ?_) hd h;obtain ⟨m1,hl,es,clock,seen,a1,a2,a3,a4,a5,a6,a7⟩:=H.mem.get hF;obtain ⟨e,he,⟨s,rfl⟩,r3,r4⟩:=a7 y Z;have e1:=run_entry_at (P:=P) w gi gm clock s es clock e (hl _ _ a2) (hl _ _ a1) he a5.2.1;intro ρ o hρ ho _;simp [execOp,ho,hρ _ _ hx,e1,r3,r4]
theorem Nh (q:Nat) {gm gi:Nat} (hF:nth F q=some (mr gm gi K ok L R c)) (hG:jl F q (mp gm K ok L)=some G):Ent F G :=
 q7 q hF (fun _ ⟨es,clock,_,a1,_,a3,a4,a5,_⟩=>⟨es,clock,a1,a3,a4,a5⟩) hG
end
end Go.Eng
namespace Go.Eng
open Go Go.RowKit Go.WideMaps

theorem xC {α β:Type} {f:α→Option β} {h:α→β}:∀ (l:List α),(∀ x∈l,f x=some (h x))→l.mapM f=some (l.map h)
 | [], _ => rfl
 | x :: l, hf => by
  rw [List.mapM_cons,hf x (by simp),xC l (fun y hy=>hf y (by simp [hy]))]
  rfl
theorem Ga {P:Program} {k e n:Nat} {q:IntKind} (A:ArrKey P k e n) (he:P.underlying e=some (.int q)) (hsz:∃ m,P.types.size=m+1) {l:List Int} (hn:l.length=n) (hw:∀ x∈l,(Lit.int q x).wf=true) :
  ∃ lit,keyOf P k (.agg ⟨l.map (Value.int q)⟩)=some lit:=by
 have hkt:=A.keyType hsz;obtain ⟨m,hm⟩:=hsz;unfold keyOf;simp only [A.hu];rw [if_pos (by simp [hkt,Value.formed,A.hu,A.size,hn]),hm];unfold Program.keyLits;simp only [A.hu,Value.cells];rw [if_pos (by rw [A.size];simp [hn])];rw [xC (h:=fun i=> [Lit.int q (l.getD i 0)]) (List.range n) (fun i hi=> ?_)]
 ·simp
 ·have hi':i<l.length:=by rw [hn];exact aoa.1 hi
  have hd:((l.map (Value.int q)).drop (i*P.cellsOf e)).take (P.cellsOf e) = [Value.int q (l.getD i 0)]:=by
   rw [A.one,aop,an8 (by simpa using hi')];simp [hi']
  have hw':=hw (l.getD i 0) (by rw [ano,am8 hi'];exact ana hi');generalize l.getD i 0=z at hd hw' ⊢;show Program.keyLits P (m+1) e _=_;rw [hd];simp [Program.keyLits,he,hw']
theorem Sh {P:Program} {k e n:Nat} {q:IntKind} (A:ArrKey P k e n) (he:P.underlying e=some (.int q)) (hsz:∃ m,P.types.size=m+1) :
  MK P k (fun l:List Int=> .agg ⟨l.map (Value.int q)⟩) (fun l=>l.length=n∧∀ x∈l,(Lit.int q x).wf=true) where
 law:= .of A.law
 of:=fun _ h=>Ga A he hsz h.1 h.2
 inj:=fun a b _ _ h=>by
  simp only [Value.agg.injEq,Array.mk.injEq] at h;exact (List.map_inj_right (fun x y e=>by cases e;rfl)).1 h

open Classical in
theorem j4 {A:SP} {F G:List SP} (e:Ent F G):Ent (A::F) (A::G):=by
 rintro m ⟨H,a,b,c⟩
 let U:PH:=fun i=>if x:∃ j,H (j+1) i≠none then H (x.choose+1) i else none
 have hU:∀ j,le (H (j+1)) U:=by
  intro j i o ho;have x:∃ j,H (j+1) i≠none:=⟨j,by rw [ho];simp⟩;have e1:U i=H (x.choose+1) i:=dif_pos x;rw [e1];have hs:=x.choose_spec;by_cases hjj:x.choose=j
  ·rw [hjj];exact ho
  ·rcases b (x.choose+1) (j+1) (by omega) i with h | h
   ·exact absurd h hs
   ·rw [ho] at h;cases h
 have hUm:le U m:=by
  intro i o ho;by_cases x:∃ j,H (j+1) i≠none
  ·have e1:U i=H (x.choose+1) i:=dif_pos x;rw [e1] at ho;exact a _ i o ho
  ·have e1:U i=none:=dif_neg x;rw [e1] at ho;cases ho
 have hU0:apt (H 0) U:=by
  intro i;by_cases x:∃ j,H (j+1) i≠none
  ·left;rcases b 0 (x.choose+1) (by omega) i with h | h
   ·exact h
   ·exact absurd h x.choose_spec
  ·exact .inr (dif_neg x)
 obtain ⟨K,ka,kb,kc⟩:=e U ⟨fun j=>H (j+1),hU,fun i j hij=>b _ _ (by omega),fun i B hB=>c (i+1) B hB⟩;have h0:∀ j,apt (H 0) (K j):=fun j i=>by
  rcases hU0 i with h | h
  ·exact .inl h
  ·right;cases hk:K j i with
   | none => rfl
   | some o => rw [ka j i o hk] at h; cases h
 refine ⟨fun j=>match j with | 0=>H 0 | j+1=>K j,fun i=> ?_,fun i j hij=> ?_,fun i B hB=> ?_⟩
 ·cases i with
  | zero => exact a 0
  | succ i => exact (ka i).trans hUm
 ·cases i with
  | zero => cases j with
   | zero => exact absurd Z hij
   | succ j => exact h0 j
  | succ i => cases j with
   | zero => exact (h0 i).symm
   | succ j => exact kb i j (by omega)
 ·cases i with
  | zero => exact c 0 B hB
  | succ i => exact kc i B hB
theorem je {F G:List SP} (h:F.Perm G):Ent F G:=by
 induction h with
 | nil => exact Ent.refl _
 | cons _ _ ih => exact j4 ih
 | swap x y l => exact rL 2 [1, 0] Z Z
 | trans _ _ i1 i2 => exact i1.trans i2
theorem qd {A B C F:List SP} (h:A.Perm (B++C)):Ent (all A::F) (B++all C::F):=by
 refine sk.trans <| (je (h.append_right F)).trans ?_;rw [anh];clear h
 induction B with
 | nil => exact (eg : Ent (C ++ F) (all C :: F))
 | cons x B ih => exact j4 ih
theorem ny {A B C F:List SP} (h:A.Perm (B++C)):Ent (B++all C::F) (all A::F):=by
 refine Ent.trans ?_ ((je (h.symm.append_right F)).trans eg);rw [anh];clear h
 induction B with
 | nil => exact (sk : Ent (all C :: F) (C ++ F))
 | cons x B ih => exact j4 ih
theorem SC.conv {P:Program} {f:Nat} {args:List Value} {b:World} {F G:List SP} {R R':Value→List SP→Prop} (h:SC P f args b G R) (he:Ent F G) (hr:∀ v G',R v G'→∃ F',R' v F'∧Ent G' F'):SC P f args b F R':=fun w H =>
 (h w (H.ent he)).mono fun _ _ ⟨v,G',h1,h2,h3⟩=>by
  obtain ⟨F',h4,h5⟩:=hr v G' h2;exact ⟨v,F',h1,h4,h3.ent h5⟩
theorem SC.at {P:Program} {f:Nat} {args:List Value} {b:World} {F G:List SP} {v:Value} (h:SC P f args b G (fun u G'=>u=v∧G'=G)) (he:Ent F G) (hb:Ent G F):SC P f args b F (fun u F'=>u=v∧F'=F) :=
 h.conv he fun _ _ ⟨h1,h2⟩=>⟨F,⟨h1,rfl⟩,h2▸hb⟩
section
variable {P:Program} {tt:Nat→Option TI} [TT P tt] {ro:Option Nat} {N:Nat} {l rest:List Oper} {Q:Exit→Act→World→Prop} {E:List (Nat × Value)} {ds:List Deferred} {b:World} {F F0 G:List SP} {fl:Oper→Bool} {kk:Nat}
 {d:Nat} {op:Op} {ty:TypeId} {pos:String} {aft:Array Edge} {g:Option (Nat × Bool)} {v:Value}
 {α:Type} [DecidableEq α] {K:α→Value} {ok:α→Prop} {L:List (α × Value)} {a:α}
theorem lF (q:Nat) {t k e s1 s2 gm:Nat} {z1:Value} {f1:List (Nat × Nat)} {i:TI} {m x:Operand} (M:MK P k K ok) (ha:ok a) (hv:md a L=none) (hg:da l E g=some true) (hop:op = .lookup t m x true) (ht:tt t=some ⟨.map k e,s1,s2,z1,f1⟩) (he:tt e=some i) (hm:ev E m=some (.map (some gm))) (hx:ev E x=some (K a))
  (hF:nth F q=some (mp gm K ok L)) (hd:Nat.blt d N=true) (h:SO P ro N l rest Q ((d,.tuple ⟨[i.zero,.bool false]⟩)::E) ds b F):SO P ro N l (⟨some d,op,ty,pos,aft,g⟩::rest) Q E ds b F:=by
 subst hop;refine fc hg (fun w H=> ?_) hd h;have:=gQ (ty:=ty) (c:=true) M ht he hm hx ha hF w H;simpa [hv] using this
theorem Ce (q:Nat) {t k e s1 s2 gm:Nat} {z1:Value} {f1:List (Nat × Nat)} {i:TI} {m x:Operand} (M:MK P k K ok) (ha:ok a) (hv:md a L=some v) (hg:da l E g=some true) (hop:op = .lookup t m x true) (ht:tt t=some ⟨.map k e,s1,s2,z1,f1⟩) (he:tt e=some i) (hm:ev E m=some (.map (some gm))) (hx:ev E x=some (K a))
  (hF:nth F q=some (mp gm K ok L)) (hd:Nat.blt d N=true) (h:SO P ro N l rest Q ((d,.tuple ⟨[v,.bool true]⟩)::E) ds b F):SO P ro N l (⟨some d,op,ty,pos,aft,g⟩::rest) Q E ds b F:=by
 subst hop;refine fc hg (fun w H=> ?_) hd h;have:=gQ (ty:=ty) (c:=true) M ht he hm hx ha hF w H;simpa [hv] using this
theorem lG (q:Nat) {t k e s1 s2 gm:Nat} {z1:Value} {f1:List (Nat × Nat)} {i:TI} {m x:Operand} (M:MK P k K ok) (ha:ok a) (hv:md a L=none) (hg:da l E g=some true) (hf:fl ⟨some d,op,ty,pos,aft,g⟩=true) (hop:op = .lookup t m x true) (ht:tt t=some ⟨.map k e,s1,s2,z1,f1⟩) (he:tt e=some i) (hm:ev E m=some (.map (some gm))) (hx:ev E x=some (K a))
  (hF:nth F0 q=some (mp gm K ok L)) (hd:Nat.blt d N=true) (h:SD P fl ro N F0 l (kk+1) rest Q ((d,.tuple ⟨[i.zero,.bool false]⟩)::E) ds b F):SD P fl ro N F0 l kk (⟨some d,op,ty,pos,aft,g⟩::rest) Q E ds b F:=by
 subst hop;refine ij hg (fun w H=> ?_) hf hd h;have:=gQ (ty:=ty) (c:=true) M ht he hm hx ha hF w H;simpa [hv] using this
theorem lH (q:Nat) {t k e s1 s2 gm:Nat} {z1:Value} {f1:List (Nat × Nat)} {i:TI} {m x:Operand} (M:MK P k K ok) (ha:ok a) (hv:md a L=some v) (hg:da l E g=some true) (hf:fl ⟨some d,op,ty,pos,aft,g⟩=true) (hop:op = .lookup t m x true) (ht:tt t=some ⟨.map k e,s1,s2,z1,f1⟩) (he:tt e=some i) (hm:ev E m=some (.map (some gm))) (hx:ev E x=some (K a))
  (hF:nth F0 q=some (mp gm K ok L)) (hd:Nat.blt d N=true) (h:SD P fl ro N F0 l (kk+1) rest Q ((d,.tuple ⟨[v,.bool true]⟩)::E) ds b F):SD P fl ro N F0 l kk (⟨some d,op,ty,pos,aft,g⟩::rest) Q E ds b F:=by
 subst hop;refine ij hg (fun w H=> ?_) hf hd h;have:=gQ (ty:=ty) (c:=true) M ht he hm hx ha hF w H;simpa [hv] using this
theorem rU (q:Nat) {t k e s1 s2 gm:Nat} {z1:Value} {f1:List (Nat × Nat)} {m x y:Operand} (M:MK P k K ok) (ha:ok a) (hg:da l E g=some true) (hf:fl ⟨none,op,ty,pos,aft,g⟩=false) (hop:op = .mapUpdate t m x y) (ht:tt t=some ⟨.map k e,s1,s2,z1,f1⟩) (hm:ev E m=some (.map (some gm))) (hx:ev E x=some (K a)) (hy:ev E y=some v)
  (hF:nth F q=some (mp gm K ok L)) (hG:jl F q (mp gm K ok (sy a v L))=some G) (hE:Ent G F0) (h:SD P fl ro N F0 l (kk+1) rest Q E ds b G):SD P fl ro N F0 l kk (⟨none,op,ty,pos,aft,g⟩::rest) Q E ds b F:=by
 subst hop;exact B5 hg hf (Nf M ht hm hx hy ha hF hG) hE h
theorem Gb (q:Nat) {t k e s1 s2 gm:Nat} {z1:Value} {f1:List (Nat × Nat)} {m x y:Operand} (M:MK P k K ok) (ha:ok a) (hg:da l E g=some true) (hop:op = .mapUpdate t m x y) (ht:tt t=some ⟨.map k e,s1,s2,z1,f1⟩) (hm:ev E m=some (.map (some gm))) (hx:ev E x=some (K a)) (hy:ev E y=some v)
  (hF:nth F q=some (mp gm K ok L)) (hG:jl F q (mp gm K ok (sy a v L))=some G) (h:SO P ro N l rest Q E ds b G):SO P ro N l (⟨none,op,ty,pos,aft,g⟩::rest) Q E ds b F:=by
 subst hop;exact Bz (w1:=fun _ _=>True) hg (Nf M ht hm hx hy ha hF hG) h
theorem X7 {S:World→Prop} {w w':World} (hg:da l E g=some true) (hf:fl ⟨none,op,ty,pos,aft,g⟩=false) (hx:Ex P E op ty w v w') (hS':S w')
  (h:DW P fl ro N S l (kk+1) rest Q E ds w'):DW P fl ro N S l kk (⟨none,op,ty,pos,aft,g⟩::rest) Q E ds w:=by
 intro a hk hds hS hl;obtain ⟨ho,hl'⟩:=cE hl;have hw:=kz (o:=⟨none,op,ty,pos,aft,g⟩) hk hg;rw [anp,aqc];refine ⟨_,ho,fun _=> .inr ⟨hf,?_⟩,fun hc=> ?_⟩
 ·unfold Eff;rw [hx a.eval ⟨none,op,ty,pos,aft,g⟩ hk.hyp Z rfl];exact ⟨hS',h _ hk.putNone hds hS' hl'⟩
 ·rw [hw] at hc;cases hc
theorem X8 (hg:da l E g=some true) (hf:fl ⟨none,op,ty,pos,aft,g⟩=false) (hx:∀ w,Sat b F w→∃ w',Ex P E op ty w v w'∧Sat b G w') (hE:Ent G F0) (h:SD P fl ro N F0 l (kk+1) rest Q E ds b G) :
  SD P fl ro N F0 l kk (⟨none,op,ty,pos,aft,g⟩::rest) Q E ds b F:=⟨fun w H=>by
 obtain ⟨w',h1,h2⟩:=hx w H;exact X7 hg hf h1 (h2.ent hE) (h.1 w' h2)⟩
theorem Ni (q:Nat) {t k e s1 s2 gm t2:Nat} {z1:Value} {f1:List (Nat × Nat)} {m x:Operand} (M:MK P k K ok) (ha:ok a) (hg:da l E g=some true) (hf:fl ⟨none,op,ty,pos,aft,g⟩=false) (hop:op = .call {callee:= .builtin .delete,args:=#[m,x],argTypes:=#[t,t2]}) (ht:tt t=some ⟨.map k e,s1,s2,z1,f1⟩) (hm:ev E m=some (.map (some gm))) (hx:ev E x=some (K a))
  (hF:nth F q=some (mp gm K ok L)) (hG:jl F q (mp gm K ok (zi a L))=some G) (hE:Ent G F0) (h:SD P fl ro N F0 l (kk+1) rest Q E ds b G):SD P fl ro N F0 l kk (⟨none,op,ty,pos,aft,g⟩::rest) Q E ds b F:=by
 subst hop;exact X8 hg hf (X6 M ht hm hx ha hF hG) hE h
end
end Go.Eng
