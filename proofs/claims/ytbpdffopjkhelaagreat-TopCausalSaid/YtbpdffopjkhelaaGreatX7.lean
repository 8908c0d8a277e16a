/- Wire, part one: the plain law of numbers as bytes: written and read again. Conditions: stated in each. -/
import Derived.Test.YtbpdffopjkhelaaGreatX1
import Derived.Test.YtbpdffopjkhelaaGreatX5
import Derived.Test.YtbpdffopjkhelaaGreatX0
import Derived.Test.YtbpdffopjkhelaaGreatX3
set_option maxRecDepth 20000
set_option maxHeartbeats 8000000
namespace Go.Proofs.YtbpdffopjkhelaaGreat

def beB:Nat→Int→List Int
 | 0, _ => []
 | k + 1, n => (n / 256 ^ k % 256) :: beB k n
def be:List Int→Int→Int
 | [], a => a
 | x :: l, a => be l (a * 256 + x)
def kq (l:List Int):Prop:=∀ x∈l,0≤x∧x<256
theorem tY (k:Nat):(0:Int)<256 ^ k:=Int.pow_pos (by decide)
theorem Pj (k:Nat):(256:Int) ^ (k+1)=256 ^ k*256:=Int.pow_succ ..
theorem Jb (k:Nat) (n:Int):(beB k n).length=k:=by induction k <;> simp [beB, *]
theorem Y4 (l:List Int) (a:Int):be l a=a*256 ^ l.length+be l 0:=by
 induction l generalizing a with
 | nil => simp [be]
 | cons x l ih =>
  simp only [be,anp,Pj];rw [ih (a*256+x),ih (0*256+x),Int.add_mul,Int.mul_assoc,Int.mul_comm 256];simp;omega
theorem Wx {l:List Int} (h:kq l):0≤be l 0∧be l 0<256 ^ l.length:=by
 induction l with
 | nil => simp [be]
 | cons x l ih =>
  have hx:=h x anl;have ih:=ih fun y hy=>h y (ank _ hy)
  have hp:=tY l.length;simp only [be,anp,Pj];rw [Y4 l];simp only [Int.zero_mul,Int.zero_add];have h1:0≤x*256 ^ l.length:=Int.mul_nonneg hx.1 (by omega);have h2:x*256 ^ l.length≤255*256 ^ l.length:=Int.mul_le_mul_of_nonneg_right (by omega) (by omega);omega
def kk:Nat→Nat→Int→Nat
 | 0, k, _ => k
 | m + 1, k, n => if n / 256 ^ k > 0 then kk m (k + 1) n else k
def qz (n:Int):Nat:=if n<192 then 0 else kk 7 1 n
theorem Wy (m k:Nat) (n:Int):k≤kk m k n∧kk m k n≤k+m:=by
 induction m generalizing k with
 | zero => simp [kk]
 | succ m ih =>
  simp only [kk];split
  ·have:=ih (k+1);omega
  ·omega
theorem Dv {k j:Nat} (h:k≤j):(256:Int) ^ k≤256 ^ j:=by
 induction h with
 | refl => exact aql _
 | step _ ih => have := tY k; rw [Pj]; omega
theorem xV {n:Int} (h:192≤n):1≤qz n∧qz n≤8:=by
 have:=Wy 7 1 n;simp only [qz];rw [if_neg (by omega)];omega
theorem Pk (n:Int):qz n≤8:=by
 have:=Wy 7 1 n;simp only [qz];split <;> omega
def aG (n:Int):List Int:=if n<192 then [n % 256] else (191+(qz n:Int))::beB (qz n) n
theorem Pm (n:Int):(aG n).length=1+qz n:=by
 unfold aG;split
 ·simp [qz, *]
 ·simp [Jb];omega
structure RS where
 at':Nat
 e:Int
 fa:Int
abbrev RS.fail (s:RS) (e:Int) (fa:Int):RS:=if s.e=0 then ⟨s.at',e,fa⟩ else s
def j8 (B:List Int) (s:RS):Int × RS :=
 if s.e≠0 then (0,s)
 else if B.length≤s.at' then (0,⟨s.at',6,s.at'⟩)
 else
  let c:=B[s.at']?.getD 0
  let k:=(c - 191).toNat
  if c<192 then (c,⟨s.at'+1,0,s.fa⟩)
  else if 199<c then (0,⟨s.at',5,s.at'⟩)
  else if B.length<s.at'+1+k then (0,⟨s.at',6,s.at'⟩)
  else
   let n:=be ((B.drop (s.at'+1)).take k) 0
   if 9223372036854775808≤n∨qz n≠k then (0,⟨s.at',5,s.at'⟩)
   else (n,⟨s.at'+1+k,0,s.fa⟩)
def mz (B:List Int) (most:Int) (s:RS):Int × RS :=
 if s.e≠0 then (0,s) else ((j8 B s).1,if most<(j8 B s).1 then (j8 B s).2.fail 4 s.at' else (j8 B s).2)
def xk (B:List Int) (n:Int) (pl:Int) (s:RS):List Int × RS :=
 if s.e≠0 then ([],s)
 else if (B.length:Int) - s.at'<n then ([],⟨s.at',6,pl⟩)
 else ((B.drop s.at').take n.toNat,⟨s.at'+n.toNat,0,s.fa⟩)
def qq (B:List Int) (most:Int) (s:RS):List Int × RS:=xk B (mz B most s).1 s.at' (mz B most s).2
def rID (B:List Int) (s:RS):List Int × RS :=
 if s.e≠0 then (List.replicate 32 0,s)
 else if (B.length:Int) - s.at'<32 then (List.replicate 32 0,⟨s.at',6,s.at'⟩)
 else ((B.drop s.at').take 32,⟨s.at'+32,0,s.fa⟩)
def Ak (B:List Int) (s:RS):(Int × Int) × RS :=
 let a:=j8 B s
 let c:=j8 B a.2
 (if c.2.e≠0 then (0,0) else (a.1,c.1),c.2)
def m0 (B:List Int):Nat→RS→List Int × RS
 | 0, s => ([], s)
 | n + 1, s =>
  let a:=j8 B s
  let c:=m0 B n a.2
  (a.1::c.1,c.2)
def Hc (B:List Int) (most:Int) (s:RS):List Int × RS :=
 let a:=mz B most s
 let c:=m0 B a.1.toNat a.2
 (if c.2.e≠0 then [] else c.1,c.2)
def tZ (B:List Int) (s:RS):Int:=if s.e≠0 then 0 else B.length - s.at'
def Al (B:List Int) (s:RS):Int × Int:=if s.e=0∧s.at'<B.length then (4,s.at') else (s.e,s.fa)

section
variable {B:List Int} {s:RS}
theorem y7 (h:s.e≠0):j8 B s=(0,s):=by simp [j8,h]
theorem Dw (h:s.e≠0) (n:Nat):(m0 B n s).2=s:=by
 induction n with
 | zero => rfl
 | succ n ih => simp only [m0, y7 h]; exact ih
theorem wg (most:Int) (h:s.e≠0):mz B most s=(0,s):=by simp [mz,h]
theorem fY (n pl:Int) (h:s.e≠0):xk B n pl s=([],s):=by simp [xk,h]
theorem Am (most:Int) (h:s.e≠0):qq B most s=([],s):=by simp [qq,wg _ h,fY _ _ h]

structure Go1 {α:Type} (f:List Int→RS→α × RS):Prop where
 stuck:∀ B s,(f B s).2.e=0→s.e=0
 go:∀ B C s,(f B s).2.e=0→s.at'≤B.length→f (B++C) s=f B s∧(f B s).2.at'≤B.length∧s.at'≤(f B s).2.at'∧(f B s).2.fa=s.fa
theorem Y5:Go1 j8 where
 stuck B s h:=apn fun he=>absurd h (by rw [y7 he];exact he)
 go B C s h hs:=by
  have he:s.e=0:=apn fun he=>absurd h (by rw [y7 he];exact he)
  unfold j8 at h ⊢;simp only [he,ne_eq,not_true,if_false] at h ⊢;by_cases h1:B.length≤s.at'
  ·rw [if_pos h1] at h;simp at h
  simp only [if_neg h1] at h ⊢;rw [if_neg (c:=(B++C).length≤_) (by rw [am9];omega)];have hc:(B++C)[s.at']? = B[s.at']?:=aot (by omega);rw [hc];generalize B[s.at']?.getD 0=c at h ⊢;by_cases h2:c<192
  ·simp only [if_pos h2] at h ⊢;exact ⟨trivial,by show s.at'+1≤_;omega,by show _≤s.at'+1;omega,trivial⟩
  simp only [if_neg h2] at h ⊢;by_cases h3:199<c
  ·simp [if_pos h3] at h
  simp only [if_neg h3] at h ⊢;by_cases h4:B.length<s.at'+1+(c - 191).toNat
  ·simp [if_pos h4] at h
  simp only [if_neg h4] at h ⊢;rw [if_neg (by rw [am9];omega)];have hd:((B++C).drop (s.at'+1)).take (c - 191).toNat=(B.drop (s.at'+1)).take (c - 191).toNat:=by
   rw [apy (by omega),apm (by simp;omega)]
  rw [hd];generalize be ((B.drop (s.at'+1)).take (c - 191).toNat) 0=n at h ⊢;by_cases h5:9223372036854775808≤n∨qz n≠(c - 191).toNat
  ·simp [if_pos h5] at h
  simp only [if_neg h5];exact ⟨trivial,by show s.at'+1+_≤_;omega,by show _≤s.at'+1+_;omega,trivial⟩
theorem Jc (most:Int):Go1 (fun B s=>mz B most s) where
 stuck B s h:=apn fun he=>absurd h (by show (mz B most s).2.e≠0;rw [wg most he];exact he)
 go B C s h hs:=by
  have he:s.e=0:=apn fun he=>absurd h (by show (mz B most s).2.e≠0;rw [wg most he];exact he)
  unfold mz at h ⊢;simp only [he,ne_eq,not_true,if_false] at h ⊢;have h1:(j8 B s).2.e=0:=apn fun h1=>absurd h (by split <;> simp [h1])
  obtain ⟨h3,h4,h5,h6⟩:=Y5.go B C s h1 hs;rw [h3];by_cases h7:most<(j8 B s).1
  ·rw [if_pos h7] at h;simp [RS.fail,h1] at h
  ·rw [if_neg h7];exact ⟨rfl,h4,h5,h6⟩
end
open Go Go.Eng Go.RowKit

theorem fZ (s:ByteArray):strOfNums (fe s)=s:=by
 apply ari;apply aqe;simp only [strOfNums,fe,apk]
 conv=>rhs;rw [← List.map_id s.data.toList]
 apply aqj;intro c _;simp
structure WS where
 b:List Int
 e:Int
def zl (lim:Int) (p:Bool × List Int) (s:WS):WS :=
 if s.e≠0 then s else if p.1=false then ⟨s.b,3⟩ else if lim<s.b.length+p.2.length then ⟨s.b,4⟩ else ⟨s.b++p.2,0⟩
def gC (lim:Int):List (Bool × List Int)→WS→WS
 | [], s => s
 | p :: l, s => gC lim l (zl lim p s)
def mM (s:WS):List Int × Int:=if s.e≠0 then ([],s.e) else (s.b,0)
theorem oV (lim:Int) (l m:List (Bool × List Int)) (s:WS):gC lim (l++m) s=gC lim m (gC lim l s):=by
 induction l generalizing s with
 | nil => rfl
 | cons p l ih => exact ih _
def kI (n:Int):Bool × List Int:=(decide (0≤n),aG n)
def qG (r n:Int):Bool × List Int:=(decide (0≤r)&&decide (0≤n),aG r++aG n)
def qH (l:List Int):Bool × List Int:=(l.all fun n=>decide (0≤n),aG l.length++(l.map aG).flatten)
def aH (l:List Int):Bool × List Int:=(true,aG l.length++l)
def pID (l:List Int):Bool × List Int:=(true,l)
abbrev r0:RS:=⟨0,0,0⟩


def okNum (x:Int):Bool:=decide (0≤x)&&decide (x≤1048576)
def tm (e:Ev) (n:Int):Bool :=
 decide (1≤e.r∧e.r≤n∧1≤e.n∧e.n≤1048576∧(e.deps.length:Int)=n)&&e.deps.all okNum&&decide (e.deps[(e.r - 1).toNat]?.getD 0=e.n - 1)
def mN (l:List (List Int)):Bool:=(List.range (l.length - 1)).all fun i=>decide (pn (l[i]?.getD []) (l[i+1]?.getD [])<0)
def jI (e:Ev) (asked:Bool) (w:Int):Int :=
 if asked=false then (if e.refs.length=0 then 0 else 2)
 else if e.refs.length=0∨256<e.refs.length∨e.id∉e.refs∨mN e.refs=false then 2
 else if (e.refs.all fun x=>fR x w)=true then 0 else 8
def mO (e:Ev):Int:=if e.kind=3∨e.kind=4 then (if po (fe e.tag)=(0,0) then 0 else 7) else if e.tag.size=0 then 0 else 2
def idE (e:Ev) (w:Int):Int:=if e.kind=4 then (if e.id=List.replicate 32 0 then 0 else 8) else if fR e.id w=true then 0 else 8
def dA (e:Ev) (n w:Int):Int :=
 if n<1∨16<n∨w<1∨32<w then 3
 else if tm e n=false then 2
 else if e.kind<1∨4<e.kind then 5
 else if mo (fe e.repo)≠(0,0) then 7
 else if mO e≠0 then mO e
 else if idE e w≠0 then idE e w
 else jI e (decide (e.kind=1∨e.kind=3)) w

theorem ajj (x:Int) {k:Nat} (hk:k≤8):x.fdiv (2 ^ min (8*(k:Int)).toNat IntKind.i64.bits)=x / 256 ^ k:=by
 have e:min (8*(k:Int)).toNat IntKind.i64.bits=8*k:=by show min _ 64=_;omega
 have e2:((2:Int) ^ (8*k))=256 ^ k:=by rw [Int.pow_mul];rfl
 rw [e,e2,Int.fdiv_eq_ediv_of_nonneg _ (Int.le_of_lt (tY k))]
theorem u8w (y:Int):IntKind.u8.wrap y=y % 256:=by simp [IntKind.wrap,IntKind.signed,IntKind.bits]
theorem Pn {k j:Nat} (n:Int) (h:j<k):(beB k n).take (j+1)=(beB k n).take j ++ [n / 256 ^ (k - 1 - j) % 256]:=by
 induction k generalizing j with
 | zero => omega
 | succ k ih =>
  cases j with
  | zero => simp [beB]
  | succ j =>
   simp only [beB,List.take_succ_cons,aoe];rw [ih (by omega),show k - 1 - j=k+1 - 1 - (j+1) by omega]
section
variable {b:World} {F:List SP}
theorem Jd {x:Int}:SC Tryz.prog Cy [ii x] b F (fun v F'=>v=ii (qz x:Nat)∧F'=F):=by
 refine aw Tryz.func249 Z Z Z <| akw <| ae Z <| akv <| ad <| akw <| am4 Z Z <| akv ?_;refine de Z (fun h=> ?_) (fun h=> ?_)
 ·refine akw <| ae Z <| akv <| ai <| ag <| ar Z Z ax ?_;exact ⟨am7 (Value.int .i64) (by simp [qz,h]),rfl⟩
 refine ak <| ab <| akw <| ae Z <| akv <| ad <| am ?_;refine dt (S:=Nat) (fun k=> [(0,ii x),(3,ii k)]) (fun _=>F) (fun k=>1≤k∧k≤8∧kk (8 - k) k x=kk 7 1 x) (fun k=>8 - k) 1 ax ⟨by omega,by omega,rfl⟩ ?_;rintro k ⟨hk1,hk8,hk⟩;have hs:qz x=kk 7 1 x:=by simp [qz,h]
 generalize kk 7 1 x=m at hk hs;refine ad <| akw <| am5 Z Z Z ?_;refine np 8 Z (fun h1=> ?_) (fun h1=> ?_)
 ·have h1':k<8:=by omega
  rw [show 8 - k=(8 - (k+1))+1 by omega] at hk;simp only [kk] at hk;refine am4 Z Z <| az Z <| az Z <| am4 Z Z <| akv ?_;refine de Z (fun h2=> ?_) (fun h2=> ?_) <;> rw [ajj x hk8] at h2
  ·rw [if_pos h2] at hk;refine ak <| ab <| am <| aa <| ae Z <| az Z <| ae Z <| ac <| bh ?_;rw [show (k:Int)+1=((k+1:Nat):Int) by omega];exact cw (k+1) ax ⟨by omega,by omega,hk⟩
  ·rw [if_neg h2] at hk;refine bz <| au <| av <| ap <| ab <| akw <| am4 Z Z <| akv <| ai <| ar Z Z ax ?_;exact ⟨am7 (Value.int .i64) (by rw [hs,← hk]),rfl⟩
 ·obtain rfl:k=8:=by omega
  (iterate 6 refine ae Z ?_)
  refine akv <| aj Z <| bz <| au <| av <| ap <| ab <| akw <| am4 Z Z <| akv <| ai <| ar Z Z ax ?_;exact ⟨am7 (Value.int .i64) (by rw [hs,← hk];rfl),rfl⟩
theorem mP {v:Value} {bs:List Int} {x:Int} (hx:I64 x) (hl:bs.length≤60000000):SC Tryz.prog p7 [v,.iface fd (ii x)] b (rB v bs::F) (fun u F'=>∃ r,u = .tuple ⟨[r,.bool (decide (0≤x))]⟩∧F'=rB r (bs++aG x)::F):=by
 refine aw Tryz.func247 Z Z Z <| akw <| am4 Z Z <| akv <| ad <| akw <| ae Z <| akv <| am <| akw <| ow Z Z Z Z Z Z Z <| am4 Z Z <| akv <| ao Z <| akw <| ae Z <| aan <| ae Z <| bg Z Z Z (Jd) <| ae Z <| akv <| ad <| akw <| am4 Z Z <| akv ?_;refine de Z (fun h=> ?_) (fun h=> ?_)
 ·have h1:x<192:=by
   by_cases h1:x<192
   ·exact h1
   ·have:=xV (n:=x) (by omega);omega
  refine akw <| am5 Z Z Z <| bm 27 (.int .u8 (x % 256)) Z (am7 (Value.int .u8) (u8w x)) <| ql [.int .u8 (x % 256)] Z Z Z Z Z Z Z Z Z fun gl=> ?_;refine ef 1 Z Z Z Z Z Z Z Z Z (vl1 (l:= [x % 256]) (k:=0) Z (by decide) Z) (ib [x % 256]) (by simp;omega) (fun _=>rfl) fun r=> ?_;refine eo ((u7 (l:=bs++aG x) 1 Z (by simp [aG,h1]) (by simp [aG,h1]) Z).trans (af 2 [1] Z)) ?_;refine am5 Z Z Z <| ae Z <| akv <| ai <| ag <| al <| ag <| fz Z Z Z ax ?_;exact ⟨r,rfl,rfl⟩
 have h1:192≤x:=by
  by_cases h1:x<192
  ·exact absurd (show (qz x:Int)=0 by simp [qz,h1]) h
  ·omega
 have hp:=xV h1;have hN:aG x=(191+(qz x:Int))::beB (qz x) x:=by unfold aG;rw [if_neg (by omega)]
 generalize qz x=k at hp hN ⊢;refine ak <| ab <| akw <| am4 Z Z <| az Z <| ae Z ?_;refine bm 35 (.int .u8 (191+(k:Int))) Z (am7 (Value.int .u8) (by rw [u8w];omega)) ?_;refine ql [.int .u8 (191+(k:Int))] Z Z Z Z Z Z Z Z Z fun gl=> ?_;refine ef 1 Z Z Z Z Z Z Z Z Z (vl1 (l:= [191+(k:Int)]) (k:=0) Z (by decide) Z) (ib [191+(k:Int)]) (by simp;omega) (fun _=>rfl) fun r=> ?_;refine eo ((u7 (l:=bs ++ [191+(k:Int)]) 1 Z (by simp) (by simp) Z).trans (af 2 [1] Z)) ?_;refine ae Z <| akv <| ad <| akw <| am4 Z Z <| akv <| am ?_;refine dt (S:=Nat × Value) (fun s=> [(0,s.2),(6,ii x),(7,ii k),(38,ii k),(39,ii s.1)]) (fun s=>rB s.2 (bs ++ [191+(k:Int)]++(beB k x).take s.1)::F) (fun s=>s.1≤k) (fun s=>k - s.1) (0,r) (by simp only [ap4,anv];exact Ent.refl _) (anq _) ?_;rintro ⟨i,r⟩ hi;dsimp only at hi ⊢;have hbl:=Jb k x;refine akw <| ae Z <| akv <| ad ?_;refine de Z (fun h2=> ?_) (fun h2=> ?_)
 ·have h2':i<k:=by omega
  refine ak <| ab <| ad <| am <| akw <| am4 Z Z <| akv <| aa <| am5 Z Z Z <| az Z <| ae Z <| az Z <| az Z <| az Z <| ae Z ?_;have e:x.fdiv (2 ^ min (8*((k:Int) - 1 - (i:Int))).toNat IntKind.i64.bits)=x / 256 ^ (k - 1 - i):=by
   rw [show (k:Int) - 1 - (i:Int)=((k - 1 - i:Nat):Int) by omega];exact ajj x (by omega)
  refine bm 50 (.int .u8 (x / 256 ^ (k - 1 - i) % 256)) Z (am7 (Value.int .u8) (by rw [e,u8w])) ?_;refine ql [.int .u8 (x / 256 ^ (k - 1 - i) % 256)] Z Z Z Z Z Z Z Z Z fun gl=> ?_;refine ef 1 Z Z Z Z Z Z Z Z Z (vl1 (l:= [x / 256 ^ (k - 1 - i) % 256]) (k:=0) Z (by decide) Z) (ib [x / 256 ^ (k - 1 - i) % 256]) (by simp [hbl];omega) (fun _=>rfl) fun r=> ?_;refine eo ((u7 (l:=bs ++ [191+(k:Int)]++(beB k x).take (i+1)) 1 Z (by simp [hbl];omega) (by rw [Pn x h2',← List.append_assoc];simp) Z).trans (af 2 [1] Z)) ?_;refine ae Z <| ac <| bh <| ab <| aa <| az Z <| ae Z <| ac ?_;rw [show (i:Int)+1=((i+1:Nat):Int) by omega];exact cw (i+1,r) ax h2'
 ·obtain rfl:i=k:=by omega
  refine bz <| au <| av <| ap <| ab <| akw <| am5 Z Z Z <| akv <| ai <| al <| ag <| fz Z Z Z ax ?_;refine ⟨r,?_,?_⟩
  ·rw [ani (show 0≤x by omega)];rfl
  ·rw [hN,an1 (by omega)];simp
end

section
variable {b:World} {F:List SP}
theorem xW {v:Value} {bs:List Int} {n:Nat} (hn:n≤1000000000) (hl:bs.length≤60000000):SC Tryz.prog p7 [v,.iface fd (ii n)] b (rB v bs::F) (fun u F'=>∃ r,u = .tuple ⟨[r,.bool true]⟩∧F'=rB r (bs++aG n)::F) :=
 (mP (x:=n) ⟨by omega,by omega⟩ hl).mono fun _ _ ⟨r,h1,h2⟩=>⟨r,by rw [h1,ani (by omega)],h2⟩
theorem to (n:Int):(aG n).length≤9:=by rw [Pm];have:=Pk n;omega
theorem Ts {v:Value} {bs:List Int} {s:ByteArray} (hs:s.size≤1000000) (hl:bs.length≤50000000):SC Tryz.prog p7 [v,.iface jv (.string s)] b (rB v bs::F) (fun u F'=>∃ r,u = .tuple ⟨[r,.bool true]⟩∧F'=rB r (bs++(aG s.size++fe s))::F):=by
 have hn9:=to s.size;have hsz:=sf s;refine aw Tryz.func247 Z Z Z <| akw <| am4 Z Z <| akv <| ad <| akw <| ae Z <| akv <| am <| akw <| ow Z Z Z Z Z Z Z <| am4 Z Z <| akv <| aj Z <| akw <| ow Z Z Z Z Z Z Z <| am4 Z Z <| akv <| ao Z <| akw <| ae Z <| aan <| am5 Z Z Z <| ae Z <| bf Z Z Z (xW (n:=s.size) (by omega) (by omega)) ?_;rintro _ _ ⟨r,rfl,rfl⟩;refine am5 Z Z Z <| ae Z <| aan <| am4 Z Z ?_;refine K0 0 Z Z Z Z Z Z Z Z Z Z Z (by simp;omega) (fun _=>rfl) fun r'=> ?_;refine eo (u7 (l:=bs++(aG s.size++fe s)) 0 Z (by simp [hsz];omega) (by simp [sE]) Z) ?_;refine am4 Z Z <| akv <| ai <| al <| ag <| fz Z Z Z ax ?_;exact ⟨r',rfl,rfl⟩
theorem Po {v:Value} {bs l:List Int} (h:l.length=32) (hl:bs.length≤50000000):SC Tryz.prog p7 [v,.iface t_api_ID (idV l)] b (rB v bs::F) (fun u F'=>∃ r,u = .tuple ⟨[r,.bool true]⟩∧F'=rB r (bs++l)::F):=by
 refine aw Tryz.func247 Z Z Z <| akw <| am4 Z Z <| akv <| ad <| akw <| ae Z <| akv <| am <| akw <| ow Z Z Z Z Z Z Z <| am4 Z Z <| akv <| aj Z <| akw <| ow Z Z Z Z Z Z Z <| am4 Z Z <| akv <| aj Z <| akw <| ow Z Z Z Z Z Z Z <| am4 Z Z <| akv <| aj Z <| akw <| ow Z Z Z Z Z Z Z <| am4 Z Z <| akv <| ao Z <| akw <| db Z Z Z Z Z fun g=> ?_;refine fh 0 Z Z Z Z Z Z Z (by rw [dr,h];rfl) (ib _) (by simp [h]) ?_;refine aan <| ae Z <| az Z <| ef 1 Z Z Z Z Z Z Z Z Z (vl1 (l:=l) (k:=0) h.symm (by decide) Z) (ib l) (by omega) (fun _=>rfl) fun r=> ?_;refine eo ((u7 (l:=bs++l) 1 Z (by simp [h]) (by simp) Z).trans (af 2 [1] Z)) ?_;refine am4 Z Z <| akv <| ai <| al <| ag <| fz Z Z Z ax ?_;exact ⟨r,rfl,rfl⟩
theorem Tt {v:Value} {bs:List Int} {r n:Int} (hr:I64 r) (hn:I64 n) (hl:bs.length≤50000000):SC Tryz.prog p7 [v,.iface t_api_Dot (nh r n)] b (rB v bs::F) (fun u F'=>∃ x,u = .tuple ⟨[x,.bool (qG r n).1]⟩∧F'=rB x (bs++(qG r n).2)::F):=by
 have hr9:=to r;refine aw Tryz.func247 Z Z Z <| akw <| am4 Z Z <| akv <| ad <| akw <| ae Z <| akv <| am <| akw <| ow Z Z Z Z Z Z Z <| am4 Z Z <| akv <| aj Z <| akw <| ow Z Z Z Z Z Z Z <| am4 Z Z <| akv <| aj Z <| akw <| ow Z Z Z Z Z Z Z <| am4 Z Z <| akv <| aj Z <| akw <| ow Z Z Z Z Z Z Z <| am4 Z Z <| akv <| aj Z <| akw <| ow Z Z Z Z Z Z Z <| am4 Z Z <| akv <| ao Z <| akw <| db Z Z Z Z Z fun g=>eu 0 Z Z Z Z <| akv ?_
 refine akw <| am4 Z Z <| bt 0 Z Z Z <| ae Z <| bf Z Z Z ((mP (F:=pt g t_api_Dot [ii r,ii n]::F) (v:=v) (bs:=bs) hr (by omega)).ent (af 2 [1,0] Z)) ?_;rintro _ _ ⟨x,rfl,rfl⟩;refine am5 Z Z Z <| ae Z <| aan <| am4 Z Z <| bt 1 Z Z Z <| ae Z ?_;refine bf Z Z Z (mP hn (by simp;omega)) ?_;rintro _ _ ⟨y,rfl,rfl⟩;refine am5 Z Z Z <| ae Z <| akv <| ad <| cn flo _ (by decide +kernel) ax <| ay Z Zl <| ay Z Zl <| cl 1 Z Z Z Z <| ay Z Zl <| ay Z Zl ?_;refine aap 112 Z (fun h1=> ?_) (fun h1=> ?_)
 ·refine ay Z Zl <| cl 1 Z Z Z Z <| ay Z Zl <| ay Z Zl <| ay Z Zl <| ay Z Zl <| aq <| ab <| ai <| al <| ag <| fz Z Z Z (af 2 [0] Z) ?_;exact ⟨y,by simp [qG,h1];rfl,by simp [qG]⟩
 ·(iterate 6 refine ay Z Zl ?_)
  refine aq <| ab <| ai <| al <| ag <| fz Z Z Z (af 2 [0] Z) ?_;exact ⟨y,by simp [qG,h1];rfl,by simp [qG]⟩
end

section
variable {b:World} {F:List SP}
theorem ajk {fn:Nat} [Bodied Tryz.prog fn] {va:Value} {xs:List Int} {q:Int→Bool} (hq:∀ x∈xs,SC Tryz.prog fn [ii x] b F (fun v F'=>v = .bool (q x)∧F'=F)) (ha:∀ w,Sat b F w→VL (Value.int .i64) w va xs) (hn:xs.length≤10000000) :
  SC Tryz.prog nv [va,.func (.func fn) ⟨[]⟩ ⟨[]⟩] b F (fun v F'=>(∃ i:Int,v=ii i∧decide (0≤i)=xs.any q)∧F'=F):=by
 refine aw Tryz.func185 Z Z Z <| bu (fun w H=>(ha w H).form) ?_;rintro ⟨A,c,rfl,h1,h2,h3,h4⟩;refine akw <| ae Z <| akv <| ad <| akw <| am5 Z Z Z <| akv <| am <| dt (S:=Nat) (fun i=> [(0,.slice A xs.length c),(1,.func (.func fn) ⟨[]⟩ ⟨[]⟩),(7,ii xs.length),(8,ii i)]) (fun _=>F) (fun i=>i≤xs.length∧(xs.take i).any q=false) (fun i=>xs.length - i) 0 ax ⟨anq _,rfl⟩ ?_;rintro i ⟨hi,hk⟩;refine akw <| ae Z <| akv <| ad ?_;refine de Z (fun h=> ?_) (fun h=> ?_)
 ·have h':i<xs.length:=by omega
  obtain ⟨bk,off,rfl⟩:=h4 (by omega);refine ak <| ab <| ad <| am <| akw <| am4 Z Z <| aan <| am5 Z Z Z <| az Z ?_;refine fc Z (fun w H=>br Z Z Z (by rw [bq];simpa using VL.at (ha w H) i h')) Z ?_;refine bg Z Z Z (hq _ (ana h')) ?_;cases hx:q xs[i] with
  | true =>
   refine akv <| ao Z <| akw <| am4 Z Z <| akv <| ai <| al <| ag <| cd <| al <| ag <| ar Z Z ax <| ⟨⟨i,rfl,?_⟩,rfl⟩;rw [ani (by omega)];exact (List.any_eq_true.2 ⟨_,ana h',hx⟩).symm
  | false =>
   refine akv <| aj Z <| ak <| bh <| ab <| aa <| az Z <| ae Z <| ac <| cw (i+1) ax ⟨h',?_⟩;rw [ang h',List.any_append,hk];simp [hx]
 ·refine bz <| au <| av <| ap <| ab <| akw <| ae Z <| akv <| ai <| ar Z Z ax <| ⟨⟨-1,rfl,?_⟩,rfl⟩;rw [an1 (by omega)] at hk;rw [hk];rfl
theorem He {fn:Nat} [Bodied Tryz.prog fn] {va:Value} {xs:List Int} {q:Int→Bool} (hq:∀ x∈xs,SC Tryz.prog fn [ii x] b F (fun v F'=>v = .bool (q x)∧F'=F)) (ha:∀ w,Sat b F w→VL (Value.int .i64) w va xs) (hn:xs.length≤10000000) :
  SC Tryz.prog mf [va,.func (.func fn) ⟨[]⟩ ⟨[]⟩] b F (fun v F'=>v = .bool (xs.any q)∧F'=F):=by
 refine aw Tryz.func99 Z Z Z <| akw <| ae Z <| aan <| am4 Z Z <| bf Z Z Z (ajk hq ha hn) ?_;rintro _ _ ⟨⟨i,rfl,hi⟩,rfl⟩;refine am4 Z Z <| akv <| ai <| ar Z Z ax ?_;exact ⟨am7 Value.bool hi,rfl⟩
theorem Tu {x:Int}:SC Tryz.prog vY [ii x] b F (fun v F'=>v = .bool (decide (x<0))∧F'=F):=by
 refine aw Tryz.func285 Z Z Z <| akw <| ae Z <| aan <| am5 Z Z Z <| akv <| ai <| ar Z Z ax ?_;exact ⟨rfl,rfl⟩
theorem Wz (l:List Int):((l.map aG).flatten).length≤9*l.length:=by
 induction l with
 | nil => simp
 | cons x l ih =>
  have h1:=to x;simp only [ant,aqh,am9,anp];omega
theorem Tv {v vx:Value} {bs xs:List Int} (ha:∀ w,Sat b F w→VL (Value.int .i64) w vx xs) (hx:∀ x∈xs,I64 x) (hn:xs.length≤1000000) (hl:bs.length≤20000000):SC Tryz.prog p7 [v,.iface ez vx] b (rB v bs::F) (fun u F'=>∃ r,u = .tuple ⟨[r,.bool (qH xs).1]⟩∧F'=rB r (bs++(qH xs).2)::F):=by
 have hn9:=to xs.length;refine aw Tryz.func247 Z Z Z <| bu (fun w H=>((up ha (af 1 [] Z)) w H).form) ?_;rintro ⟨A,c,rfl,h1,h2,h3,h4⟩;refine akw <| am4 Z Z <| akv <| ad <| akw <| ae Z <| akv <| am <| akw <| ow Z Z Z Z Z Z Z <| am4 Z Z <| akv <| aj Z <| akw <| ow Z Z Z Z Z Z Z <| am4 Z Z <| akv <| aj Z <| akw <| ow Z Z Z Z Z Z Z <| am4 Z Z <| akv <| aj Z <| akw <| ow Z Z Z Z Z Z Z <| am4 Z Z <| akv <| aj Z <| akw <| ow Z Z Z Z Z Z Z <| am4 Z Z <| akv <| aj Z <| akw <| ow Z Z Z Z Z Z Z <| am4 Z Z <| akv ?_;refine ao Z <| akw <| ae Z <| aan <| am5 Z Z Z <| ae Z <| bf Z Z Z (xW (n:=xs.length) (by omega) (by omega)) ?_;rintro _ _ ⟨r,rfl,rfl⟩;refine am5 Z Z Z <| ae Z <| akv <| ad <| akw <| am5 Z Z Z <| akv <| am ?_;refine dt (S:=Nat × Value) (fun s=> [(0,s.2),(13,.slice A xs.length c),(128,.slice A xs.length c),(129,ii xs.length),(130,ii s.1)]) (fun s=>rB s.2 (bs++aG xs.length++((xs.take s.1).map aG).flatten)::F) (fun s=>s.1≤xs.length) (fun s=>xs.length - s.1) (0,r) (by simp only [ap4,aqm,List.flatten_nil,anv];exact Ent.refl _) (anq _) ?_;rintro ⟨i,r⟩ hi;dsimp only at hi ⊢;have hf9:=Wz (xs.take i);rw [anm] at hf9;refine akw <| ae Z <| akv <| ad ?_;refine de Z (fun h=> ?_) (fun h=> ?_)
 ·have h':i<xs.length:=by omega
  obtain ⟨bk,off,rfl⟩:=h4 (by omega);refine ak <| ab <| ad <| am <| akw <| az Z ?_;refine fc Z (fun w H=>br Z Z Z (by rw [bq];simpa using VL.at ((up ha (af 1 [] Z)) w H) i h')) Z ?_;refine ae Z <| akv <| aa <| am5 Z Z Z ?_;refine bf Z Z Z (mP (hx _ (ana h')) (by simp only [am9];omega)) ?_;rintro _ _ ⟨r2,rfl,rfl⟩;refine am5 Z Z Z <| ae Z <| ac <| bh <| ab <| aa <| az Z <| ae Z <| ac <| cw (i+1,r2) ?_ h';rw [ang h',anu,List.flatten_append,ant,aqm,aqh,List.flatten_nil,anv,← anh];exact Ent.refl _
 obtain rfl:i=xs.length:=by omega
 rw [an7];refine bz <| au <| av <| ap <| ab <| akw <| am4 Z Z <| bg Z Z Z (He (q:=fun x=>decide (x<0)) (fun _ _=>Tu) (up ha (af 1 [] Z)) (by omega)) <| am5 Z Z Z <| akv <| ai <| al <| ag <| fz Z Z Z ax ?_;refine ⟨r,?_,by simp [qH]⟩;have e:(!xs.any fun x=>decide (x<0))=(qH xs).1:=by
  rw [apw];simp only [qH,Bool.not_eq_true',aqx,an4,aoy];exact ⟨fun h x hx=>by have:=h x hx;omega,fun h x hx=>by have:=h x hx;omega⟩
 rw [e];rfl

abbrev wtP (g gw:Nat) (v:Value) (lim:Int) (s:WS):List SP:= [pt g vZ [pp gw,ii lim,v],pt gw qh [ii s.e,ii 0],rB v s.b]
theorem Je {g gw:Nat} {v:Value} {lim:Int} {s:WS}:SC Tryz.prog eW [pp g] b (wtP g gw v lim s++F) (fun u F'=>u = .bool false∧F'=wtP g gw v lim s++F):=by
 refine aw Tryz.func171 Z Z Z <| akw <| ae Z <| aan ?_
 (iterate 6 refine ae Z ?_)
 refine bt 0 Z Z Z <| am5 Z Z Z <| akv <| ai <| ar Z Z ax ?_;exact ⟨rfl,rfl⟩
theorem iA {gw:Nat} {e fa:Int}:SC Tryz.prog dU [pp gw] b (pt gw qh [ii e,ii fa]::F) (fun u F'=>u = .bool (decide (e≠0))∧F'=pt gw qh [ii e,ii fa]::F):=by
 refine aw Tryz.func172 Z Z Z <| akw <| ae Z <| aan <| am5 Z Z Z <| ae Z <| bt 0 Z Z Z <| am4 Z Z <| akv <| ai <| ar Z Z ax ?_;exact ⟨am7 Value.bool (by simp),rfl⟩
theorem tp {gw:Nat} {e0 fa0 e fa:Int}:SC Tryz.prog fH [pp gw,ii e,ii fa] b (pt gw qh [ii e0,ii fa0]::F) (fun _ F'=>F'=pt gw qh [ii (if e0=0 then e else e0),ii (if e0=0 then fa else fa0)]::F):=by
 refine aw Tryz.func248 Z Z Z <| akw <| am5 Z Z Z <| ae Z <| bt 0 Z Z Z <| ae Z <| akv ?_;refine de Z (fun h=> ?_) (fun h=> ?_)
 ·refine aa ?_
  (iterate 6 refine ae Z ?_)
  refine eu 0 Z Z Z Z <| ac <| jb Z .nil ax ?_;rw [if_pos h,if_pos h]
 ·refine ak <| jb Z .nil ax ?_;rw [if_neg h,if_neg h]
end

section
variable {b:World} {F:List SP} {g gw:Nat} {v va:Value} {lim:Int} {s:WS}
theorem uA {xs:List Int} (ha:∀ w,Sat b F w→VL (Value.int .u8) w va xs) (hn:xs.length≤1000000):SC Tryz.prog xx [va] b F (fun v F'=>F'=rB v xs::F):=by
 refine aw Tryz.func173 Z Z Z <| bu (fun w H=>(ha w H).form) ?_;rintro ⟨A,c,rfl,h1,h2,h3,h4⟩;cases A with
 | none =>
  have hc:=h3 Z;have hx:xs = []:=aol.1 (by omega);subst hx;refine akw <| ae Z <| akv <| ad <| akw <| am4 Z Z <| akv <| ao Z <| akw <| ae Z <| akv <| ai <| ag <| ar Z Z (df m8 1 Z) ?_
  rfl
 | some a =>
  refine akw <| ae Z <| akv <| ad <| akw <| am4 Z Z <| akv <| aj Z <| ak <| ab <| akw <| ql [] Z Z Z Z Z Z Z Z Z fun g0=>eo (kt (n:=0) (sz:=1) Z Z (by decide) 0 Z Z) <| ae Z <| ef 0 Z Z Z Z Z Z Z Z Z (up ha (af 1 [] Z)) (ib _) (by omega) (fun _=>rfl) fun v6=>ae Z <| akv <| ai <| ar Z Z ax ?_
  show row m8 1 v6 _ _::F=rB v6 xs::F;simp [rB]
theorem uB {p:Bool × List Int} (h:(s.b.length:Int)≤lim):((zl lim p s).b.length:Int)≤lim:=by
 unfold zl
 split
 ·exact h
 ·split
  ·exact h
  ·split
   ·exact h
   ·show ((s.b++p.2).length:Int)≤lim;rw [am9];omega
theorem Dx (h0:0≤lim) (h1:lim≤67108864):SC Tryz.prog oC [ii lim] b F (fun u F'=>∃ g gw,u = .tuple ⟨[pp g,ii 0]⟩∧F'=wtP g gw (.slice none 0 0) lim ⟨[],0⟩++F):=by
 refine aw Tryz.func82 Z Z Z <| akw <| am4 Z Z <| akv <| ad <| akw <| am5 Z Z Z <| np 6 Z (fun h=>absurd h (by omega)) (fun h=>am5 Z Z Z <| akv <| de Z (fun h=>absurd h (by omega)) (fun h=>ak <| ab <| akw <| ae Z <| bx Z Z Z Z Z fun g1=>am4 Z Z <| bx Z Z Z Z Z fun g2=>am4 Z Z <| akv <| ai <| fz Z Z Z ((af 2 [0,1] Z).trans ((df m8 1 Z).trans (af 3 [1,2,0] Z))) ?_));exact ⟨g2,g1,rfl,rfl⟩
theorem Tw (hs:s.b.length≤1000000):SC Tryz.prog eT [pp g] b (wtP g gw v lim s++F) (fun u F'=>∃ r,u = .tuple ⟨[r,ii (mM s).2]⟩∧F'=rB r (mM s).1::F):=by
 refine aw Tryz.func87 Z Z Z <| akw <| am4 Z Z <| akv <| ad <| am <| akw <| ae Z <| bg Z Z Z (Je) <| ae Z <| akv <| aj Z <| akw <| am5 Z Z Z <| bt 0 Z Z Z <| bg Z Z Z (iA.at (af 3 [1,0,2] Z) (af 3 [1,0,2] Z)) <| ae Z <| akv ?_;by_cases h1:s.e≠0
 ·have hw:mM s=([],s.e):=by unfold mM;rw [if_pos h1]
  rw [ani h1,hw];refine ao Z <| ad <| cn flo _ (by decide +kernel) ax <| ay Z Zl <| ay Z Zl <| ay Z Zl <| cl 0 Z Z Z Z <| ay Z Zl <| ay Z Zl <| ay Z Zl <| cl 1 Z Z Z Z <| ay Z Zl <| ay Z Zl <| aq <| ab <| ai <| al <| ag <| fz Z Z Z ((af 3 [] Z).trans (df m8 1 Z)) ?_;exact ⟨_,rfl,rfl⟩
 have h1':s.e=0:=by simpa using h1
 have hw:mM s=(s.b,0):=by unfold mM;rw [if_neg h1]
 rw [ans h1,hw];refine aj Z <| ak <| bh <| ab <| akw <| am5 Z Z Z <| bt 0 Z Z Z <| bf Z Z Z (uA (vlB (k:=2) Z) hs) ?_;rintro r _ rfl;refine am4 Z Z <| akv <| ai <| fz Z Z Z (af 4 [0] Z) ?_;exact ⟨r,rfl,rfl⟩
end

theorem or8 (a x:Nat) (hx:x<256) (ha:a<2 ^ 56):kU .or .u64 (IntKind.u64.wrap ((a:Int)*2 ^ min (8:Int).toNat IntKind.u64.bits)) (x:Int)=(a:Int)*256+x:=by
 have e0:min (8:Int).toNat IntKind.u64.bits=8:=rfl;have h1:IntKind.u64.wrap ((a:Int)*2 ^ 8)=((a <<< 8:Nat):Int):=by
  rw [Nat.shiftLeft_eq];simp only [IntKind.wrap,IntKind.signed,IntKind.bits];simp;omega
 rw [e0,h1];have h2:(BitVec.ofInt 64 ((a <<< 8:Nat):Int) ||| BitVec.ofInt 64 (x:Int)).toNat=a*256+x:=by
  rw [BitVec.toNat_or];simp only [BitVec.ofInt_natCast,BitVec.toNat_ofNat];have e1:a <<< 8 % 2 ^ 64=a <<< 8:=Nat.mod_eq_of_lt (by rw [Nat.shiftLeft_eq];omega);have e2:x % 2 ^ 64=x:=Nat.mod_eq_of_lt (by omega);rw [e1,e2,← Nat.shiftLeft_add_eq_or_of_lt (b:=x) (i:=8) (by omega),Nat.shiftLeft_eq]
 have h3:kU .or .u64 ((a <<< 8:Nat):Int) (x:Int)=IntKind.u64.wrap (((BitVec.ofInt 64 ((a <<< 8:Nat):Int) ||| BitVec.ofInt 64 (x:Int)).toNat:Nat):Int):=rfl;rw [h3,h2];simp only [IntKind.wrap,IntKind.signed,IntKind.bits];simp;omega
theorem amw {a x:Int} (hx:0≤x∧x<256) (ha:0≤a∧a<72057594037927936):kU .or .u64 (IntKind.u64.wrap (a*2 ^ min (8:Int).toNat IntKind.u64.bits)) x=a*256+x:=by
 obtain ⟨n,rfl⟩:=Int.eq_ofNat_of_zero_le ha.1;obtain ⟨m,rfl⟩:=Int.eq_ofNat_of_zero_le hx.1;exact or8 n m (by omega) (by omega)
theorem Ty:∀ c:Fin 256,IntKind.i64.wrap (c.val:Int)=(c.val:Int):=by decide +kernel
theorem Tz {c:Int} (h:0≤c∧c<256):IntKind.i64.wrap c=c:=by
 have:=Ty ⟨c.toNat,by omega⟩;simpa [Int.toNat_of_nonneg h.1] using this
theorem T2 (l:List Int) (x a:Int):be (l ++ [x]) a=be l a*256+x:=by
 induction l generalizing a with
 | nil => rfl
 | cons y l ih => exact ih _
theorem kq.take {l:List Int} (h:kq l) (n:Nat):kq (l.take n):=fun x hx=>h x (aon hx)
theorem kq.drop {l:List Int} (h:kq l) (n:Nat):kq (l.drop n):=fun x hx=>h x (List.mem_of_mem_drop hx)
theorem W0 {b:World} {F:List SP} {A:Option Addr} {c at' to':Nat} {xs:List Int} (hv:∀ w,Sat b F w→VL (Value.int .u8) w (.slice A xs.length c) xs) (h1:at'≤to') (h2:to'≤xs.length) (hc:xs.length≤c) (hm:c≤9223372036854775807) (hz:A=none→c=0) :
  ∀ w,Sat b F w→VL (Value.int .u8) w (.slice (if c=at' then A else A.map fun x=>x.add (at'*1)) (to' - at') (c - at')) ((xs.take to').drop at'):=fun w H =>
 VL.sub (hv w H) h1 h2 (by omega) (by omega) (fun hlt bk off hA=>by
  rw [if_neg (by omega),hA];simp only [aoh,Addr.add,aop]
  split
  ·rename_i h0;simp [h0]
  ·rfl) (fun hn=>by
  split at hn
  ·omega
  ·simp only [Option.map_eq_none_iff] at hn;have:=hz hn;omega)
section
variable {b:World} {F:List SP} {g gw:Nat} {v:Value} {B:List Int} {s:RS}
abbrev wrP (g gw:Nat) (v:Value) (B:List Int) (s:RS):List SP:= [pt g wA [pp gw,v,ii s.at'],pt gw qh [ii s.e,ii s.fa],rB v B]
theorem wi:SC Tryz.prog eY [pp g] b (wrP g gw v B s++F) (fun u F'=>u = .bool (decide (s.e≠0))∧F'=wrP g gw v B s++F):=by
 refine aw Tryz.func175 Z Z Z <| akw <| ae Z <| aan ?_
 (iterate 6 refine ae Z ?_)
 refine bt 0 Z Z Z ?_
 (iterate 6 refine ae Z ?_)
 refine bt 0 Z Z Z <| bg Z Z Z (iA.at (af 3 [1,0,2] Z) (af 3 [1,0,2] Z)) <| am4 Z Z <| akv <| ai <| ar Z Z ax ?_;exact ⟨rfl,rfl⟩
theorem mQ (hB:B.length≤1000000) (hb:kq B):SC Tryz.prog iT [pp g] b (wrP g gw v B s++F) (fun u F'=>u=ii (j8 B s).1∧F'=wrP g gw v B (j8 B s).2++F):=by
 refine aw Tryz.func176 Z Z Z <| bu (fun w H=>(H.oat (k:=2) Z).form) ?_;rintro ⟨A,c0,rfl,hc1,hc2,hc3⟩;refine akw <| ae Z <| akv <| ad <| akw <| ae Z <| bg Z Z Z (wi) <| akv ?_;by_cases h1:s.e≠0
 ·rw [ani h1];refine ao Z <| akw <| ae Z <| akv <| ai <| ag <| ar Z Z ax ?_;rw [y7 h1];exact ⟨rfl,rfl⟩
 rw [ans h1];have h1':s.e=0:=by simpa using h1
 refine aj Z <| ak <| ab <| ad <| ad <| cn flo _ (by decide +kernel) ax <| ay Z Zl <| ay Z Zl <| ay Z Zl <| cl 0 Z Z Z Z <| ay Z Zl <| ay Z Zl <| ay Z Zl <| cl 0 Z Z Z Z <| ay Z Zl <| ay Z Zl <| aq <| ab ?_;refine de Z (fun h2=> ?_) (fun h2=> ?_)
 ·have hr:j8 B s=(0,⟨s.at',6,s.at'⟩):=by unfold j8;rw [if_neg h1,if_pos (by omega)]
  refine ad <| jc flo 8 _ [] Z (by decide +kernel) ax <| ay Z Zl <| ay Z Zl <| ay Z Zl <| cl 0 Z Z Z Z <| ay Z Zl <| ay Z Zl <| ay Z Zl <| cl 0 Z Z Z Z <| aq <| jd Z (dc _) <| d9 Z Z Z Z ((tp).ent (af 3 [1,0,2] Z)) ?_;rintro _ _ rfl;refine ⟨dc _,(aq <| ab <| akw <| ae Z <| akv <| ai <| ag <| ar Z Z (af 3 [1,0,2] Z) ?_)⟩;rw [hr,if_pos h1',if_pos h1'];exact ⟨rfl,rfl⟩
 have hlt:s.at'<B.length:=by omega
 obtain ⟨gb,ob,rfl⟩:=hc3 (by omega);have hrow:∀ (F:List SP) (k:Nat),nth F k=some (rB (.slice (some ⟨gb,ob,none⟩) B.length c0) B)→∀ w,Sat b F w→∀ i (hi:i<B.length),w.cell? ⟨gb,ob+i,none⟩=some (.int .u8 B[i]):=fun F k hk w H i hi=>by
  have:=VL.at (vlB hk w H) i hi;simpa using this
 have hbyte:0≤B[s.at']∧B[s.at']<256:=hb _ (ana hlt);have hget:B[s.at']?.getD 0=B[s.at']:=by rw [am8 hlt];rfl
 have hr:j8 B s=if B[s.at']<192 then (B[s.at'],⟨s.at'+1,0,s.fa⟩) else if 199<B[s.at'] then (0,⟨s.at',5,s.at'⟩) else if B.length<s.at'+1+(B[s.at'] - 191).toNat then (0,⟨s.at',6,s.at'⟩)
   else if 9223372036854775808≤be ((B.drop (s.at'+1)).take (B[s.at'] - 191).toNat) 0∨qz (be ((B.drop (s.at'+1)).take (B[s.at'] - 191).toNat) 0)≠(B[s.at'] - 191).toNat then (0,⟨s.at',5,s.at'⟩) else (be ((B.drop (s.at'+1)).take (B[s.at'] - 191).toNat) 0,⟨s.at'+1+(B[s.at'] - 191).toNat,0,s.fa⟩):=by
  unfold j8;rw [if_neg h1,if_neg (by omega),hget]
 have hcell:∀ w,Sat b (wrP g gw (.slice (some ⟨gb,ob,none⟩) B.length c0) B s++F) w→w.cell? ⟨gb,ob+s.at',none⟩=some (.int .u8 B[s.at']):=fun w H=>hrow _ 2 Z w H s.at' hlt
 generalize B[s.at']=c at hbyte hr hget hcell ⊢;refine ak <| ab <| ad <| cn flo _ (by decide +kernel) ax <| ay Z Zl <| ay Z Zl <| ay Z Zl <| cl 0 Z Z Z Z <| ay Z Zl <| ay Z Zl <| ay Z Zl <| cl 0 Z Z Z Z <| cq Z Z ?_;refine ij Z (fun w H=>br Z Z Z (by rw [bq];simpa using hcell w H)) Z Z ?_;refine ay Z Zl <| ay Z Zl <| cz 3 (ii c) Z (am7 (Value.int .i64) (Tz hbyte)) <| aq <| ab <| akw <| ae Z <| az Z <| am4 Z Z <| akv <| ad <| am <| akw <| am5 Z Z Z <| akv ?_;obtain ⟨k,hk⟩:∃ k:Nat,max (c - 191) 0=(k:Int):=⟨(max (c - 191) 0).toNat,by omega⟩;refine ik 4 (ii k) Z (am7 (Value.int .i64) hk) ?_
 skip
 refine de Z (fun h3=> ?_) (fun h3=> ?_)
 ·rw [if_neg (by omega),if_pos h3] at hr;refine ad <| jc flo 8 _ [] Z (by decide +kernel) ax <| ay Z Zl <| ay Z Zl <| ay Z Zl <| cl 0 Z Z Z Z <| ay Z Zl <| ay Z Zl <| ay Z Zl <| cl 0 Z Z Z Z <| aq <| jd Z (dc _) <| d9 Z Z Z Z ((tp).ent (af 3 [1,0,2] Z)) ?_;rintro _ _ rfl;refine ⟨dc _,(aq <| ab <| akw <| ae Z <| akv <| ai <| al <| ag <| ar Z Z (af 3 [1,0,2] Z) ?_)⟩;rw [hr,if_pos h1',if_pos h1'];exact ⟨rfl,rfl⟩
 refine ad <| cn flo _ (by decide +kernel) ax <| ay Z Zl <| ay Z Zl <| ay Z Zl <| cl 0 Z Z Z Z <| ay Z Zl <| ay Z Zl <| ay Z Zl <| ay Z Zl <| cl 0 Z Z Z Z <| cq Z Z <| cq Z Z <| ay Z Zl <| ay Z Zl <| ay Z Zl <| aq <| ab ?_;refine de Z (fun h4=> ?_) (fun h4=> ?_)
 ·have h192:¬ c<192:=by omega
  rw [if_neg h192,if_neg h3,if_pos (by omega)] at hr;refine ad <| jc flo 8 _ [] Z (by decide +kernel) ax <| ay Z Zl <| ay Z Zl <| ay Z Zl <| cl 0 Z Z Z Z <| ay Z Zl <| ay Z Zl <| ay Z Zl <| cl 0 Z Z Z Z <| aq <| jd Z (dc _) <| d9 Z Z Z Z ((tp).ent (af 3 [1,0,2] Z)) ?_;rintro _ _ rfl;refine ⟨dc _,(aq <| ab <| akw <| ae Z <| akv <| ai <| al <| ag <| ar Z Z (af 3 [1,0,2] Z) ?_)⟩;rw [hr,if_pos h1',if_pos h1'];exact ⟨rfl,rfl⟩
 refine akw <| am5 Z Z Z <| akv ?_;refine de Z (fun h5=> ?_) (fun h5=> ?_)
 ·rw [if_pos (by omega)] at hr;refine akw <| am5 Z Z Z <| bt 0 Z Z Z <| az Z <| am4 Z Z <| eu 0 Z Z Z Z <| aan <| am4 Z Z <| akv <| ai <| al <| ag <| ar Z Z ax ?_;rw [hr];exact ⟨rfl,by rw [h1'];rfl⟩
 have h192:¬ c<192:=by omega
 have hkc:(c - 191).toNat=k:=by omega
 have hkb:s.at'+1+k≤B.length:=by omega
 have hk8:k≤8:=by omega
 rw [if_neg h192,if_neg h3,if_neg (by omega),hkc] at hr;have hDl:((B.drop (s.at'+1)).take k).length=k:=by simp;omega
 have hDb:kq ((B.drop (s.at'+1)).take k):=(hb.drop _).take _;have hcut:∀ w,Sat b (wrP g gw (.slice (some ⟨gb,ob,none⟩) B.length c0) B s++F) w→VL (Value.int .u8) w (.slice (if c0=s.at'+1 then some ⟨gb,ob,none⟩ else (some (⟨gb,ob,none⟩:Addr)).map fun x=>x.add ((s.at'+1)*1)) k (c0 - (s.at'+1))) ((B.drop (s.at'+1)).take k):=fun w H=>by
  have:=W0 (vlB (l:=B) (v:= .slice (some ⟨gb,ob,none⟩) B.length c0) (k:=2) Z) (at':=s.at'+1) (to':=s.at'+1+k) (by omega) (by omega) hc1 hc2 (fun h=>by cases h) w H;rw [List.drop_take,ao8] at this;exact this
 refine ak <| bh <| ab <| akw <| ae Z <| akv <| ad <| ad <| cn flo _ (by decide +kernel) ax <| ay Z Zl <| ay Z Zl <| ay Z Zl <| cl 0 Z Z Z Z <| ay Z Zl <| ay Z Zl <| ay Z Zl <| cl 0 Z Z Z Z <| cq Z Z <| ay Z Zl <| ay Z Zl <| ay Z Zl <| cl 0 Z Z Z Z <| cq Z Z <| ay Z Zl <| cq Z Z <| cq Z Z <| ay Z Zl <| ay Z Zl ?_;refine cz 105 (.slice (if c0=s.at'+1 then some ⟨gb,ob,none⟩ else (some (⟨gb,ob,none⟩:Addr)).map fun x=>x.add ((s.at'+1)*1)) k (c0 - (s.at'+1))) Z ?_ ?_
 ·have e1:((s.at':Int)+1).toNat=s.at'+1:=by omega
  have e2:((s.at':Int)+1+(k:Int)).toNat=s.at'+1+k:=by omega
  rw [e1,e2,ao8]
 refine aq ?_;generalize (if c0=s.at'+1 then some (⟨gb,ob,none⟩:Addr) else (some (⟨gb,ob,none⟩:Addr)).map fun x=>x.add ((s.at'+1)*1))=A2 at hcut ⊢;generalize (B.drop (s.at'+1)).take k=D at hcut hr hDl hDb;have hform:∀ w,Sat b (wrP g gw (.slice (some ⟨gb,ob,none⟩) B.length c0) B s++F) w→(0<k→∃ bk off,A2=some ⟨bk,off,none⟩):=fun w H=>by
  obtain ⟨A9,c9,e9,_,_,_,h9⟩:=(hcut w H).form;simp only [Value.slice.injEq] at e9;rw [e9.1];rw [hDl] at h9;exact h9
 refine ab <| am <| bu hform ?_;intro hA2;obtain ⟨b2,o2,rfl⟩:=hA2 (by omega)
 skip
 refine yX (S:=Nat) (fun i=> [(0,pp g),(4,ii k),(5,.int .u64 (be (D.take i) 0)),(105,.slice (some ⟨b2,o2,none⟩) k (c0 - (s.at'+1))),(106,ii k),(107,ii i)]) (fun _=>wrP g gw (.slice (some ⟨gb,ob,none⟩) B.length c0) B s++F) (fun i=>i≤k) (fun i=>k - i) 0 ⟨rfl,rfl,rfl,rfl,?_,rfl,trivial⟩ ax (anq _) ?_
 ·exact am7 (fun n=>some (Value.int .i64 n)) (by omega)
 intro i hi;have hbd:=Wx (hDb.take i);rw [anm,hDl,apq hi] at hbd;refine akw <| ae Z <| akv <| ad ?_;refine de Z (fun h6=> ?_) (fun h6=> ?_)
 ·have h6':i<k:=by omega
  have hp7:(256:Int) ^ i≤256 ^ 7:=Dv (by omega);have hDi:i<D.length:=by omega
  have hx:=hDb _ (ana hDi);have hci:∀ w,Sat b (wrP g gw (.slice (some ⟨gb,ob,none⟩) B.length c0) B s++F) w→w.cell? ⟨b2,o2+i,none⟩=some (.int .u8 D[i]):=fun w H=>VL.at (hcut w H) i hDi
  have hsn:be (D.take (i+1)) 0=be (D.take i) 0*256+D[i]:=by rw [ang hDi,T2]
  generalize D[i]=x at hx hci hsn;refine ak <| ab <| ad <| am <| akw <| az Z ?_;refine fc Z (fun w H=>br Z Z Z (by rw [bq];simpa using hci w H)) Z ?_;refine ae Z <| akv <| aa <| ae Z <| az Z <| am5 Z Z Z <| ae Z <| ac <| bh <| ab <| aa <| az Z <| ae Z <| ac ?_;rw [show (i:Int)+1=((i+1:Nat):Int) by omega];refine lC (i+1) ⟨rfl,rfl,(am7 (fun n=>some (Value.int .u64 n)) ?_),rfl,rfl,rfl,trivial⟩ ax h6' (by omega);rw [hsn];have e3:IntKind.u64.wrap x=x:=by
   simp only [IntKind.wrap,IntKind.signed,IntKind.bits];simp;omega
  rw [e3];exact amw hx ⟨hbd.1,by omega⟩
 obtain rfl:i=k:=by omega
 rw [an1 (by omega)] at hbd ⊢;have hp8:(256:Int) ^ i≤256 ^ 8:=Dv hk8;generalize be D 0=n at hbd hr ⊢;refine bz <| au <| av <| ap <| ab <| ad <| akw <| am5 Z Z Z ?_;have hw:n<9223372036854775808→IntKind.i64.wrap n=n:=fun h=>by
  simp only [IntKind.wrap,IntKind.signed,IntKind.bits];simp;omega
 refine np 119 Z (fun h7=> ?_) (fun h7=> ?_)
 ·rw [if_pos (.inl h7)] at hr
  (iterate 6 refine ae Z ?_)
  refine akv <| ao Z <| ad <| jc flo 8 _ [] Z (by decide +kernel) ax <| ay Z Zl <| ay Z Zl <| ay Z Zl <| cl 0 Z Z Z Z <| ay Z Zl <| ay Z Zl <| ay Z Zl <| cl 0 Z Z Z Z <| aq <| jd Z (dc _) <| d9 Z Z Z Z ((tp).ent (af 3 [1,0,2] Z)) ?_;rintro _ _ rfl;refine ⟨dc _,(aq <| ab <| akw <| ae Z <| akv <| ai <| ag <| ar Z Z (af 3 [1,0,2] Z) ?_)⟩;rw [hr,if_pos h1',if_pos h1'];exact ⟨rfl,rfl⟩
 refine am4 Z Z <| bm 121 (ii n) Z (am7 (Value.int .i64) (hw (by omega))) <| bg Z Z Z (Jd) <| am5 Z Z Z <| akv ?_;refine cH Z (fun h8=> ?_) (fun h8=> ?_)
 ·rw [if_pos (.inr (by omega))] at hr;refine ad <| jc flo 8 _ [] Z (by decide +kernel) ax <| ay Z Zl <| ay Z Zl <| ay Z Zl <| cl 0 Z Z Z Z <| ay Z Zl <| ay Z Zl <| ay Z Zl <| cl 0 Z Z Z Z <| aq <| jd Z (dc _) <| d9 Z Z Z Z ((tp).ent (af 3 [1,0,2] Z)) ?_;rintro _ _ rfl;refine ⟨dc _,(aq <| ab <| akw <| ae Z <| akv <| ai <| ag <| ar Z Z (af 3 [1,0,2] Z) ?_)⟩;rw [hr,if_pos h1',if_pos h1'];exact ⟨rfl,rfl⟩
 rw [if_neg (by omega)] at hr;refine ak <| ab <| akw <| am5 Z Z Z <| bt 0 Z Z Z <| ae Z <| az Z <| az Z <| am4 Z Z <| eu 0 Z Z Z Z <| aan <| am5 Z Z Z <| akv <| ai <| ar Z Z ax ?_;rw [hr];refine ⟨am7 (Value.int .i64) (hw (by omega)),?_⟩;rw [h1'];have e9:(s.at':Int)+(1+(i:Int))=((s.at'+1+i:Nat):Int):=by omega
 rw [e9]
 rfl
end

section
variable {b:World} {F:List SP} {g gw:Nat} {v:Value} {B:List Int} {s:RS}
theorem Dy {most:Int} (hB:B.length≤1000000) (hb:kq B):SC Tryz.prog eX [pp g,ii most] b (wrP g gw v B s++F) (fun u F'=>u=ii (mz B most s).1∧F'=wrP g gw v B (mz B most s).2++F):=by
 refine aw Tryz.func174 Z Z Z <| akw <| ae Z <| akv <| ad <| akw <| ae Z <| bg Z Z Z (wi) <| akv ?_;by_cases h1:s.e≠0
 ·rw [ani h1];refine ao Z <| akw <| ae Z <| akv <| ai <| ag <| ar Z Z ax ?_;rw [wg _ h1];exact ⟨rfl,rfl⟩
 rw [ans h1];refine aj Z <| ak <| ab <| akw <| am5 Z Z Z <| bt 0 Z Z Z <| ae Z <| aan <| ae Z <| bf Z Z Z (mQ hB hb) ?_;rintro _ _ ⟨rfl,rfl⟩;have hr:mz B most s=((j8 B s).1,if most<(j8 B s).1 then (j8 B s).2.fail 4 s.at' else (j8 B s).2):=by unfold mz;rw [if_neg h1]
 generalize j8 B s=q at hr ⊢;obtain ⟨n,s2⟩:=q;dsimp only at hr ⊢;refine ae Z <| akv <| ad <| akw <| am5 Z Z Z <| akv ?_;refine de Z (fun h2=> ?_) (fun h2=> ?_)
 ·rw [if_pos h2] at hr;refine aa <| am5 Z Z Z <| bt 0 Z Z Z <| ae Z <| bf Z Z Z ((tp).ent (af 3 [1,0,2] Z)) ?_;rintro _ _ rfl;refine aan <| am4 Z Z <| akv <| ai <| ar Z Z (af 3 [1,0,2] Z) ?_;rw [hr];refine ⟨rfl,?_⟩;dsimp only;unfold RS.fail
  split <;> rfl
 ·rw [if_neg h2] at hr;refine ak <| ab <| akw <| am4 Z Z <| akv <| ai <| ar Z Z ax ?_;rw [hr];exact ⟨rfl,rfl⟩
theorem Dz {n pl:Int} (hn:0≤n) (hB:B.length≤1000000) (hat:s.e=0→s.at'≤B.length):SC Tryz.prog fI [pp g,ii n,ii pl] b (wrP g gw v B s++F) (fun u F'=>F'=rB u (xk B n pl s).1::(wrP g gw v B (xk B n pl s).2++F)):=by
 refine aw Tryz.func251 Z Z Z <| bu (fun w H=>(H.oat (k:=2) Z).form) ?_;rintro ⟨A,c0,rfl,hc1,hc2,hc3⟩;refine akw <| ae Z <| akv <| ad <| akw <| ae Z <| bg Z Z Z (wi) <| akv ?_;by_cases h1:s.e≠0
 ·rw [ani h1];refine ao Z <| akw <| ae Z <| akv <| ai <| ag <| ar Z Z (df m8 1 Z) ?_;rw [fY _ _ h1]
  rfl
 rw [ans h1];have h1':s.e=0:=by simpa using h1
 have hat:=hat h1';refine aj Z <| ak <| ab <| ad <| ad <| cn flo _ (by decide +kernel) ax <| ay Z Zl <| ay Z Zl <| ay Z Zl <| ay Z Zl <| cl 0 Z Z Z Z <| ay Z Zl <| ay Z Zl <| ay Z Zl <| ay Z Zl <| cl 0 Z Z Z Z <| cq Z Z <| ay Z Zl <| aq <| ab ?_;refine de Z (fun h2=> ?_) (fun h2=> ?_)
 ·have hr:xk B n pl s=([],⟨s.at',6,pl⟩):=by unfold xk;rw [if_neg h1,if_pos h2]
  refine akw <| am5 Z Z Z <| bt 0 Z Z Z <| ae Z <| bf Z Z Z ((tp).ent (af 3 [1,0,2] Z)) ?_;rintro _ _ rfl;refine aan <| ae Z <| akv <| ai <| ag <| ar Z Z ((af 3 [1,0,2] Z).trans (df m8 1 Z)) ?_;rw [hr,if_pos h1',if_pos h1']
  rfl
 have hr:xk B n pl s=((B.drop s.at').take n.toNat,⟨s.at'+n.toNat,0,s.fa⟩):=by unfold xk;rw [if_neg h1,if_neg h2]
 obtain ⟨m,rfl⟩:=Int.eq_ofNat_of_zero_le hn;have hm:s.at'+m≤B.length:=by omega
 have hcut:∀ w,Sat b (wrP g gw (.slice A B.length c0) B s++F) w→VL (Value.int .u8) w (.slice (if c0=s.at' then A else A.map fun x=>x.add (s.at'*1)) (s.at'+m - s.at') (c0 - s.at')) ((B.drop s.at').take m):=fun w H=>by
  have:=W0 (vlB (l:=B) (v:= .slice A B.length c0) (k:=2) Z) (at':=s.at') (to':=s.at'+m) (by omega) (by omega) hc1 hc2 (fun h=>by
   rcases aoo c0 with h0 | h0
   ·exact h0
   ·obtain ⟨_,_,h9⟩:=hc3 h0;rw [h] at h9;cases h9) w H
  rw [List.drop_take,ao8] at this;rw [ao8];exact this
 refine ak <| ab <| ad <| cn flo _ (by decide +kernel) ax <| ay Z Zl <| ay Z Zl <| ay Z Zl <| cl 0 Z Z Z Z <| ay Z Zl <| ay Z Zl <| ay Z Zl <| cl 0 Z Z Z Z <| ay Z Zl <| ay Z Zl <| ay Z Zl <| cl 0 Z Z Z Z <| ay Z Zl <| cq Z Z <| cq Z Z ?_;refine cz 42 (.slice (if c0=s.at' then A else A.map fun x=>x.add (s.at'*1)) (s.at'+m - s.at') (c0 - s.at')) Z ?_ ?_
 ·have e1:((s.at':Int)+(m:Int)).toNat=s.at'+m:=by omega
  rw [e1,am6]
 refine d9 Z Z Z Z (uA hcut (by simp;omega)) ?_;rintro r _ rfl;refine ⟨af 1 [] rfl,(ay Z Zl <| aq <| ab <| akw <| am5 Z Z Z <| bt 1 Z Z Z <| ae Z <| az Z <| am4 Z Z <| eu 1 Z Z Z Z <| aan <| am4 Z Z <| akv <| ai <| ar Z Z ax ?_)⟩;rw [hr,h1',am6];have e9:(s.at':Int)+(m:Int)=((s.at'+m:Nat):Int):=by omega
 rw [e9]
 rfl
theorem xX:SC Tryz.prog dY [pp g] b (wrP g gw v B s++F) (fun u F'=>u=ii (if s.e≠0 then 0 else (s.at':Int))∧F'=wrP g gw v B s++F):=by
 refine aw Tryz.func250 Z Z Z <| akw <| ae Z <| akv <| ad <| akw <| ae Z <| bg Z Z Z (wi) <| akv ?_;by_cases h1:s.e≠0
 ·rw [ani h1];refine ao Z <| akw <| ae Z <| akv <| ai <| ag <| ar Z Z ax ?_;rw [if_pos h1];exact ⟨rfl,rfl⟩
 ·rw [ans h1];refine aj Z <| ak <| ab <| akw <| am5 Z Z Z <| bt 0 Z Z Z <| ae Z <| akv <| ai <| ar Z Z ax ?_;rw [if_neg h1];exact ⟨rfl,rfl⟩
theorem Pp {most:Int} (h:s.e=0→s.at'≤B.length):(mz B most s).2.e=0→(mz B most s).2.at'≤B.length:=fun he=>by
 have:=(Jc most).stuck B s he;exact ((Jc most).go B [] s he (h this)).2.1
theorem Jf (hb:kq B):0≤(j8 B s).1∧(j8 B s).1<9223372036854775808:=by
 unfold j8
 split
 ·exact ⟨aql _,by show (0:Int)<_;decide⟩
 ·split
  ·exact ⟨aql _,by show (0:Int)<_;decide⟩
  ·rename_i h1 h2
   have hg:B[s.at']?.getD 0=B[s.at']'(by omega):=by rw [am8 (by omega)];rfl
   have hc:=hb _ (ana (show s.at'<B.length by omega));rw [hg];dsimp only
   split
   ·exact ⟨hc.1,by show _<_;dsimp only;omega⟩
   ·split
    ·exact ⟨aql _,by show (0:Int)<_;decide⟩
    ·split
     ·exact ⟨aql _,by show (0:Int)<_;decide⟩
     ·split
      ·exact ⟨aql _,by show (0:Int)<_;decide⟩
      ·rename_i h9
       have:=Wx ((hb.drop (s.at'+1)).take (B[s.at'] - 191).toNat);exact ⟨this.1,by dsimp only;omega⟩
theorem D0 {most:Int} (hb:kq B):0≤(mz B most s).1∧(mz B most s).1<9223372036854775808:=by
 unfold mz
 split
 ·exact ⟨aql _,by show (0:Int)<_;decide⟩
 ·exact Jf hb
theorem Lv {most:Int} (hB:B.length≤1000000) (hb:kq B) (hat:s.e=0→s.at'≤B.length):SC Tryz.prog dV [pp g,ii most] b (wrP g gw v B s++F) (fun u F'=>F'=rB u (qq B most s).1::(wrP g gw v B (qq B most s).2++F)):=by
 refine aw Tryz.func179 Z Z Z <| akw <| ae Z <| aan <| ae Z <| bg Z Z Z (xX) <| ae Z <| aan <| am5 Z Z Z <| bf Z Z Z (Dy hB hb) ?_;rintro _ _ ⟨rfl,rfl⟩;refine ae Z <| bf Z Z Z (Dz (D0 hb).1 hB (Pp hat)) ?_;rintro r _ rfl;refine ae Z <| akv <| ai <| ar Z Z ax ?_;by_cases h1:s.e≠0
 ·rw [Am _ h1,wg _ h1,fY _ _ h1];rfl
 ·rw [if_neg h1];rfl
theorem D1 {most:Int} (hB:B.length≤1000000) (hb:kq B) (hat:s.e=0→s.at'≤B.length):SC Tryz.prog eU [pp g,ii most] b (wrP g gw v B s++F) (fun u F'=>u = .string (strOfNums (qq B most s).1)∧F'=wrP g gw v B (qq B most s).2++F):=by
 refine aw Tryz.func92 Z Z Z <| akw <| ae Z <| aan <| am4 Z Z <| bf Z Z Z (Lv hB hb hat) ?_;rintro r _ rfl;refine Fz Z Z Z Z Z Z Z (vlB (l:=(qq B most s).1) (k:=0) Z) <| ae Z <| akv <| ai <| ar Z Z (af 1 [] Z) ?_;exact ⟨rfl,rfl⟩
theorem T3 (hB:B.length≤1000000) (hb:kq B):SC Tryz.prog iU [pp g] b (wrP g gw v B s++F) (fun u F'=>u=nh (Ak B s).1.1 (Ak B s).1.2∧F'=wrP g gw v B (Ak B s).2++F):=by
 refine aw Tryz.func181 Z Z Z <| akw <| db Z Z Z Z Z fun g2=>aan <| ae Z <| bf Z Z Z ((mQ (F:=pt g2 t_api_Dot [ii 0,ii 0]::F) hB hb).ent (af 4 [1,2,3,0] Z)) ?_
 rintro _ _ ⟨rfl,rfl⟩;refine ae Z <| db Z Z Z Z Z fun g3=>eu 0 Z Z Z Z <| aan <| ae Z <| bf Z Z Z ((mQ (F:=pt g3 t_api_Dot [ii (j8 B s).1,ii 0]::pt g2 t_api_Dot [ii 0,ii 0]::F) hB hb).ent (af 5 [1,2,3,0,4] Z)) ?_
 rintro _ _ ⟨rfl,rfl⟩;refine ae Z <| eu 3 Z Z Z Z <| akv <| ad <| akw <| ae Z <| bg Z Z Z (wi) <| akv ?_;have hr:Ak B s=(if (j8 B (j8 B s).2).2.e≠0 then (0,0) else ((j8 B s).1,(j8 B (j8 B s).2).1),(j8 B (j8 B s).2).2):=rfl;by_cases h1:(j8 B (j8 B s).2).2.e≠0
 ·rw [ani h1];refine ao Z <| akw <| ae Z <| eu 4 Z Z Z Z <| akv <| ai <| ag <| fw Z (.agg 4 Z Z Z Z Z .nil) (af 5 [0,1,2] Z) ?_;rw [hr,if_pos h1];exact ⟨rfl,rfl⟩
 ·rw [ans h1];refine aj Z <| ak <| ab <| akw <| bt 3 Z Z Z <| eu 4 Z Z Z Z <| akv <| ai <| fw Z (.agg 4 Z Z Z Z Z .nil) (af 5 [0,1,2] Z) ?_;rw [hr,if_neg h1];exact ⟨rfl,rfl⟩
theorem D3 (hB:B.length≤1000000) (hat:s.e=0→s.at'≤B.length):SC Tryz.prog eZ [pp g] b (wrP g gw v B s++F) (fun u F'=>u=ii (tZ B s)∧F'=wrP g gw v B s++F):=by
 refine aw Tryz.func178 Z Z Z <| bu (fun w H=>(H.oat (k:=2) Z).form) ?_;rintro ⟨A,c0,rfl,hc1,hc2,hc3⟩;refine akw <| ae Z <| akv <| ad <| akw <| ae Z <| bg Z Z Z (wi) <| akv ?_;by_cases h1:s.e≠0
 ·rw [ani h1];refine ao Z <| akw <| ae Z <| akv <| ai <| ag <| ar Z Z ax ?_;unfold tZ;rw [if_pos h1];exact ⟨rfl,rfl⟩
 ·rw [ans h1];have hat:=hat (by simpa using h1);refine aj Z <| ak <| ab <| ad <| cn flo _ (by decide +kernel) ax <| ay Z Zl <| ay Z Zl <| ay Z Zl <| cl 0 Z Z Z Z <| ay Z Zl <| ay Z Zl <| ay Z Zl <| ay Z Zl <| cl 0 Z Z Z Z <| cq Z Z <| ay Z Zl <| aq <| ab <| ai <| ar Z Z ax ?_;unfold tZ;rw [if_neg h1];exact ⟨rfl,rfl⟩
theorem Jg (hB:B.length≤1000000):SC Tryz.prog iM [pp g] b (wrP g gw v B s++F) (fun u F'=>u = .agg ⟨[ii (Al B s).1,ii (Al B s).2]⟩∧F'=wrP g gw v B s++F):=by
 refine aw Tryz.func95 Z Z Z <| bu (fun w H=>(H.oat (k:=2) Z).form) ?_;rintro ⟨A,c0,rfl,hc1,hc2,hc3⟩;refine akw <| db Z Z Z Z Z fun g2=>akv <| ad <| am <| akw ?_
 (iterate 6 refine ae Z ?_)
 refine bt 1 Z Z Z <| am5 Z Z Z <| akv <| aj Z <| ad <| cn flo _ (by decide +kernel) ax <| ay Z Zl <| ay Z Zl <| ay Z Zl <| cl 1 Z Z Z Z <| dh Z Z Z Z ((iA.at (af 4 [2,0,1,3] Z) (af 4 [1,2,0,3] Z))) ax <| ay Z Zl <| ay Z Zl ?_;by_cases h1:s.e≠0
 ·refine cz 21 (.bool false) Z (by rw [ani h1];rfl) ?_;refine cz 20 (.bool false) Z (by rw [ani h1];rfl) ?_
  (iterate 12 refine ay Z Zl ?_)
  refine aq <| ab <| aj Z <| ak <| bh <| ab <| akw <| am5 Z Z Z <| bt 1 Z Z Z <| am4 Z Z <| bt 2 Z Z Z <| eu 0 Z Z Z Z <| akv <| ai <| fw Z (.agg 0 Z Z Z Z Z .nil) (af 4 [1,2,3] Z) ?_;unfold Al;rw [if_neg (fun h=>h1 h.1)];exact ⟨rfl,rfl⟩
 ·have h1':s.e=0:=by simpa using h1
  refine cz 21 (.bool true) Z (by rw [ans h1];rfl) ?_;refine ay Z Zl <| ay Z Zl <| ay Z Zl <| cl 1 Z Z Z Z <| ay Z Zl <| ay Z Zl <| ay Z Zl <| cl 1 Z Z Z Z <| ay Z Zl <| ay Z Zl <| ay Z Zl <| ay Z Zl <| aq <| ab ?_;refine de Z (fun h2=> ?_) (fun h2=> ?_)
  ·refine akw <| am5 Z Z Z <| bt 1 Z Z Z <| ae Z <| eu 0 Z Z Z Z <| akv <| ai <| al <| ag <| fw Z (.agg 0 Z Z Z Z Z .nil) (af 4 [1,2,3] Z) ?_;unfold Al;rw [if_pos ⟨h1',by omega⟩];exact ⟨rfl,rfl⟩
  ·refine ak <| bh <| ab <| akw <| am5 Z Z Z <| bt 1 Z Z Z <| am4 Z Z <| bt 2 Z Z Z <| eu 0 Z Z Z Z <| akv <| ai <| fw Z (.agg 0 Z Z Z Z Z .nil) (af 4 [1,2,3] Z) ?_;unfold Al;rw [if_neg (fun h=>h2 (by omega))];exact ⟨rfl,rfl⟩
theorem Y6 (hB:B.length≤1000000) (hat:s.e=0→s.at'≤B.length):SC Tryz.prog kA [pp g] b (wrP g gw v B s++F) (fun u F'=>u=idV (rID B s).1∧F'=wrP g gw v B (rID B s).2++F):=by
 have hl32:(rID B s).1.length=32:=by
  unfold rID
  split
  ·simp
  ·split
   ·simp
   ·rename_i h1 h2
    have:=hat (by simpa using h1);simp;omega
 refine aw Tryz.func182 Z Z Z <| akw <| db Z Z Z Z Z fun g2=>akv <| ad <| jc flo 5 (pt g2 t_api_ID (u8s (List.replicate 32 0))::F) [] Z (by decide +kernel) (af 4 [0] Z) <| cq Z Z <| ay Z Zl <| ay Z Zl <| d9 Z Z Z Z ((xX (F:=pt g2 t_api_ID (u8s (List.replicate 32 0))::F)).ent (af 4 [1,2,3,0] Z)) ?_
 rintro _ _ ⟨rfl,rfl⟩;refine ⟨af 4 [3] rfl,?_⟩
 skip
 refine d9 Z Z Z Z (Dz (F:=pt g2 t_api_ID (u8s (List.replicate 32 0))::F) (by decide) hB hat) ?_;rintro r _ rfl;refine ⟨af 5 [4] rfl,?_⟩
 skip
 refine aq <| jd Z (dc _) ?_;have ht:rID B s=(if (xk B 32 (if s.e≠0 then 0 else (s.at':Int)) s).1 = [] then List.replicate 32 0 else (xk B 32 (if s.e≠0 then 0 else (s.at':Int)) s).1,(xk B 32 (if s.e≠0 then 0 else (s.at':Int)) s).2)∧((xk B 32 (if s.e≠0 then 0 else (s.at':Int)) s).1 = []∨(xk B 32 (if s.e≠0 then 0 else (s.at':Int)) s).1.length=32):=by
  unfold rID xk;by_cases h1:s.e≠0
  ·simp [h1]
  ·have hat:=hat (by simpa using h1);simp only [if_neg h1];by_cases h2:(B.length:Int) - s.at'<32
   ·simp [h2]
   ·have hl:((B.drop s.at').take (32:Int).toNat).length=32:=by simp;omega
    simp only [if_neg h2];have hne:(B.drop s.at').take (32:Int).toNat≠ []:=fun h=>by rw [h] at hl;cases hl
    rw [if_neg hne];exact ⟨rfl,.inr hl⟩
 generalize xk B 32 (if s.e≠0 then 0 else (s.at':Int)) s=q at ht ⊢;obtain ⟨D,s2⟩:=q;obtain ⟨hr,hD⟩:=ht;dsimp only at hr hD ⊢;have hDl:D.length≤32:=by rcases hD with h | h <;> simp [h]
 refine Yg Z Z Z (Kz (o:=0) (dLen:=32) (dCap:=32) (m:=D.length) (news:=u8s D) 4 Z Z Z Z Z Z Z (fun w H=>(vlB (l:=D) (k:=0) Z w H)) hDl (by simp;omega) (ib _)) (dc _) ?_;refine aq ?_;have hsp:spl (u8s (List.replicate 32 0)) 0 (u8s D)=u8s (rID B s).1:=by
  rw [hr];rcases hD with h | h
  ·subst h;rfl
  ·have hne:D≠ []:=fun e=>by subst e;cases h
   dsimp only;rw [if_neg hne];simp only [spl,ap4,aos,aob];rw [aog (by simp [h]),anv]
 rw [hsp];have hs2:s2=(rID B s).2:=by rw [hr]
 subst hs2;generalize (rID B s).1=d at hl32 ⊢;refine ab <| akw <| du 4 Z Z Z Z Z Z (ll hl32) Z ?_;refine fh 4 Z Z Z Z Z Z Z (by rw [dr,hl32];rfl) (ib _) (by simp [hl32]) ?_;refine akv <| ai ?_;refine fw Z (.whole 4 Z Z Z Z (by rw [dr,hl32];rfl) .nil) (af 5 [1,2,3] Z) ?_;exact ⟨rfl,rfl⟩
end

theorem T4 {F G:List SP} {v:Value} {n:Nat} {cs:List Value} {l:List Int} (k:Nat) (hk:nth F k=some (row fd 1 v n cs)) (hl:n=l.length) (hc:cs=bM l) (hG:jl F k (rZ v l)=some G):Ent F G:=by
 subst hl;subst hc;exact q7 k hk (fun _ h=>h) hG
theorem uC (B:List Int) (n:Nat) (s:RS):m0 B (n+1) s=((m0 B n s).1 ++ [(j8 B (m0 B n s).2).1],(j8 B (m0 B n s).2).2):=by
 induction n generalizing s with
 | zero => rfl
 | succ n ih =>
  rw [m0,ih];simp only [m0,aoe]
theorem Lw (B:List Int) (n:Nat) (s:RS):(m0 B n s).1.length=n:=by
 induction n generalizing s with
 | zero => rfl
 | succ n ih => simp only [m0, anp, ih]
theorem Hf {B:List Int} {i n:Nat} {s:RS} (h:i≤n) (he:(m0 B i s).2.e≠0):(m0 B n s).2=(m0 B i s).2:=by
 induction h with
 | refl => rfl
 | step _ ih => rw [uC, ih, y7 he]
theorem Pq {B:List Int} {most:Int} {s:RS} (h:(mz B most s).2.e=0):(mz B most s).1≤most:=by
 unfold mz at h ⊢;by_cases h1:s.e≠0
 ·rw [if_pos h1] at h;exact absurd h h1
 rw [if_neg h1] at h ⊢;dsimp only at h ⊢;by_cases h2:most<(j8 B s).1
 ·rw [if_pos h2] at h;unfold RS.fail at h
  split at h
  ·cases h
  ·rename_i h3;exact absurd h h3
 ·omega
theorem Lx {B:List Int} {most:Int} {s:RS} (hb:kq B):∃ n:Nat,(mz B most s).1=n∧n<9223372036854775808:=by
 have:=D0 (most:=most) (s:=s) hb;exact ⟨(mz B most s).1.toNat,by omega,by omega⟩
section
variable {b:World} {F:List SP} {g gw:Nat} {v va:Value} {B:List Int} {s:RS}
theorem T5 {most:Int} (hm:most≤1000000) (hB:B.length≤1000000) (hb:kq B):SC Tryz.prog cN [pp g,ii most] b (wrP g gw v B s++F) (fun u F'=>F'=rZ u (Hc B most s).1::(wrP g gw v B (Hc B most s).2++F)):=by
 refine aw Tryz.func89 Z Z Z <| akw <| ae Z <| akv <| ad <| akw <| am4 Z Z <| bf Z Z Z (Dy hB hb) ?_;rintro _ _ ⟨rfl,rfl⟩;obtain ⟨n,hn,hn63⟩:=Lx (most:=most) (s:=s) hb;have hr:Hc B most s=(if (m0 B n (mz B most s).2).2.e≠0 then [] else (m0 B n (mz B most s).2).1,(m0 B n (mz B most s).2).2):=by
  unfold Hc;dsimp only;rw [hn,am6]
 have hle:(mz B most s).2.e=0→n≤1000000:=fun h=>by have:=Pq h;omega
 rw [hn];generalize (mz B most s).2=s1 at hr hle ⊢;refine ae Z <| akv <| am <| dt (S:=Nat × Value) (fun t=> [(0,pp g),(4,t.2),(7,ii n),(8,ii t.1)]) (fun t=>rZ t.2 (m0 B t.1 s1).1::(wrP g gw v B (m0 B t.1 s1).2++F)) (fun t=>t.1≤n) (fun t=>n - t.1) (0,.slice none 0 0) (df fd 1 Z) (anq _) ?_;rintro ⟨i,r⟩ hi;dsimp only at hi ⊢;refine akw <| ae Z <| akv <| ad ?_;refine de Z (fun h=> ?_) (fun h=> ?_)
 ·have h':i<n:=by omega
  refine ak <| ab <| ad <| am <| ad <| akw <| ae Z <| bg Z Z Z ((wi (F:=rZ r (m0 B i s1).1::F)).at (af 4 [1,2,3,0] Z) (af 4 [3,0,1,2] Z)) <| akv ?_;by_cases h2:(m0 B i s1).2.e≠0
  ·rw [ani h2];refine ao Z <| akw <| ae Z <| akv <| ai <| ag <| al <| ag <| cd <| al <| ag <| ar Z Z ((af 1 [] Z).trans (df fd 1 Z)) ?_;rw [hr,Hf hi h2,if_pos h2]
   rfl
  ·rw [ans h2];have hnn:=Jf (B:=B) (s:=(m0 B i s1).2) hb;have hli:=Lw B i s1;have h0:s1.e=0:=apn fun hne=>h2 (by rw [Dw hne];exact hne)
   have hle:=hle h0;have hsn:=uC B i s1;generalize hx:(j8 B (m0 B i s1).2).1=x at hsn hnn;refine aj Z <| ak <| ab <| aa <| am4 Z Z <| bf Z Z Z ((mQ (F:=rZ r (m0 B i s1).1::F) hB hb).ent (af 4 [1,2,3,0] Z)) ?_;rintro _ _ ⟨rfl,rfl⟩;rw [hx];refine ql [ii x] Z Z Z Z Z Z Z Z Z fun gl=> ?_;refine ef (m:=1) (news:= [ii x]) 4 Z Z Z Z Z Z Z Z Z (fun w H=>(H.blk (k:=0) Z).sl Z (by decide)) (by simp [Value.oneCell']) (by omega) (fun _=>rfl) fun r2=> ?_;refine eo ((T4 (l:=(m0 B (i+1) s1).1) 4 Z (by rw [hsn];simp) (by rw [hsn];simp [bM]) Z).trans (af 5 [4,1,2,3] Z)) ?_;refine ae Z <| ac <| bh <| ab <| aa <| az Z <| ae Z <| ac ?_;rw [show (i:Int)+1=((i+1:Nat):Int) by omega];refine cw (i+1,r2) ?_ h';dsimp only;rw [hsn];exact Ent.refl _
 obtain rfl:i=n:=by omega
 refine bz <| au <| av <| ap <| ab <| ad <| akw <| ae Z <| bg Z Z Z ((wi (F:=rZ r (m0 B i s1).1::F)).at (af 4 [1,2,3,0] Z) (af 4 [3,0,1,2] Z)) <| akv ?_;by_cases h2:(m0 B i s1).2.e≠0
 ·rw [ani h2];refine ao Z <| akw <| ae Z <| akv <| ai <| ag <| ar Z Z ((af 1 [] Z).trans (df fd 1 Z)) ?_;rw [hr,if_pos h2]
  rfl
 ·rw [ans h2];refine aj Z <| ak <| ab <| akw <| am4 Z Z <| akv <| ai <| ar Z Z ax ?_;rw [hr,if_neg h2]
  rfl
theorem D4 {vb:Value} (hv:∀ w,Sat b F w→VL (Value.int .u8) w vb B) (hB:B.length≤1000000):SC Tryz.prog oE [vb] b F (fun u F'=>∃ g gw v,u=pp g∧F'=wrP g gw v B r0++F):=by
 refine aw Tryz.func88 Z Z Z <| akw <| ae Z <| aan <| ae Z <| bx Z Z Z Z Z fun g1=>ae Z <| bf Z Z Z (uA (up hv (af 1 [] Z)) hB) ?_
 rintro r _ rfl;refine b9 (fun w H=>(H.oat (k:=0) Z).form) ?_;rintro ⟨A,c,rfl,_,_,_⟩;refine ae Z <| bx Z Z Z Z Z fun g2=>ae Z <| akv <| ai <| ar Z Z (af 3 [0,2,1] Z) ?_
 exact ⟨g2,g1,_,rfl,rfl⟩
end
end Go.Proofs.YtbpdffopjkhelaaGreat
