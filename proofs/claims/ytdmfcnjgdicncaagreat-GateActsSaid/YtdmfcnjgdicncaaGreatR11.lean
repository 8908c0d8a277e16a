/- Blobs, part eleven: the heap: down, Push, Pop. Conditions: not too many. -/
import Derived.Test.YtdmfcnjgdicncaaGreatR0
import Derived.Test.YtdmfcnjgdicncaaGreatR3
namespace Go.Proofs.YtdmfcnjgdicncaaGreat
open Go.Eng Go.RowKit Go.WideMaps

def dnJ (n:Nat) (l:List (List Int)) (i:Nat):Nat:=if 2*i+2<n∧jd (l.getD (2*i+2) []) (l.getD (2*i+1) [])<0 then 2*i+2 else 2*i+1
theorem ahe {n:Nat} {l:List (List Int)} {i:Nat} (h:¬ n≤2*i+1):dnJ n l i<n∧i<dnJ n l i:=by unfold dnJ;split <;> omega
def dnM:Nat→Nat→List (List Int)→Nat→List (List Int)
 | 0, _, l, _ => l
 | k + 1, n, l, i => if n ≤ 2 * i + 1 then l else if jd (l.getD (dnJ n l i) []) (l.getD i []) < 0 then dnM k n (og l i (dnJ n l i)) (dnJ n l i) else l
theorem akx (k:Nat):∀ n l i,n - i≤k→dnM k n l i=dnM (n - i) n l i:=by
 induction k using Nat.strongRecOn with
 | ind k ih =>
  intro n l i hk
  cases k with
  | zero => rw [show n - i = 0 by omega]
  | succ k =>
   rcases Nat.eq_zero_or_pos (n - i) with h0 | h0
   ·rw [h0];simp only [dnM];rw [if_pos (by omega)]
   ·obtain ⟨m,hm⟩:∃ m,n - i=m+1:=⟨n - i - 1,by omega⟩
    rw [hm]
    simp only [dnM]
    split
    ·rfl
    ·rename_i h1
     have:=ahe (l:=l) h1
     split
     ·exact (ih k (by omega) _ _ _ (by omega)).trans (ih m (by omega) _ _ _ (by omega)).symm
     ·rfl
section
variable {b:World} {F:List SP} {A:Option Addr} {c n gh:Nat} {l:List (List Int)}
set_option maxHeartbeats 1000000 in
theorem a7t {n0:Nat} (hl:fw l) (hn:l.length=n) (h0:n0≤n) (hm:n≤1000000) :
  SC Tryz.prog s0 [.iface gy (.pointer (some ⟨gh,0,none⟩)),.int .i64 0,.int .i64 n0] b (pt gh db [.slice A n c]::rN A c n l::F)
   (fun _ F'=>F'=pt gh db [.slice A n c]::rN A c n (dnM n0 n0 l 0)::F):=by
 refine bf Tryz.func160 Z Z Z <| bd4 <| af Z <| a8r <| bgi Z Z <| bd3 <| ae <| ar ?_
 refine b6 (S:=List (List Int) × Nat) (fun s=> [(0,.iface gy (.pointer (some ⟨gh,0,none⟩))),(1,.int .i64 0),(2,.int .i64 n0),(7,.int .i64 s.2)]) (fun s=>pt gh db [.slice A n c]::rN A c n s.1::F)
  (fun s=>fw s.1∧s.1.length=n∧(s.2=0∨s.2<n0)∧dnM (n0 - s.2) n0 s.1 s.2=dnM n0 n0 l 0) (fun s=>n0 - s.2) (l,0) ⟨rfl,rfl,rfl,rfl,trivial⟩ (Ent.refl _) ⟨hl,hn,.inl rfl,by rw [Nat.sub_zero]⟩ ?_
 rintro ⟨m,i⟩ ⟨i1,i2,i3,i4⟩
 dsimp only at i1 i2 i3 i4 ⊢
 refine ar <| bd4 <| af Z ?_
 (iterate 2 refine b5 Z (by (unfold I64;omega)) ?_)
 refine af Z <| bd3 <| ae <| bd4 <| bgj Z Z Z <| af Z ?_
 by_cases c1:n0≤2*i+1
 ·refine a9 18 (.bool true) Z (by simp;omega) ?_
  refine bgj Z Z Z <| bd3 <| aq Z <| bu <| av <| ij Z <| ax <| au <| aa <| bd4 <| bgj Z Z Z <| af Z <| bd3 <| aj ?_
  have e:m=dnM n0 n0 l 0:=by
   rw [← i4]
   cases hk:n0 - i with
   | zero => rfl
   | succ k => simp only [dnM]; rw [if_pos c1]
  refine ai Z (.tmp Z .nil) (ac 0 [] Z Z) ?_
  rw [e]
 ·refine a9 18 (.bool false) Z (by simp;omega) ?_
  refine bgj Z Z Z <| bd3 <| al Z <| ao <| aa <| bd4 <| bgi Z Z <| bd3 <| ae <| bd4 <| af Z <| b5 Z (by (unfold I64;omega)) <| af Z <| a8r <| bgj Z Z Z <| af Z ?_
  refine a9 21 (.bool false) Z (by simp;omega) ?_
  skip
  obtain ⟨k,hk⟩:∃ k,n0 - i=k+1:=⟨n0 - i - 1,by omega⟩
  have hJ:=ahe (l:=m) c1
  obtain ⟨j,hj⟩:∃ j,j=dnJ n0 m i:=⟨_,rfl⟩
  rw [← hj] at hJ
  by_cases c2:2*i+2<n0
  ·refine a9 28 (.bool true) Z (by simp;omega) ?_
   refine bgj Z Z Z ?_
   subst i2
   have hless:=afr (b:=b) (F:=pt gh db [.slice A m.length c]::F) (A:=A) (c:=c) (l:=m) (i:=2*i+2) (j:=2*i+1) i1 (by omega) (by omega)
   refine a9 30 (.int .i64 (2*i+2:Nat)) Z (by first | rfl | (congr 1;omega)) ?_
   refine a9 31 (.int .i64 (2*i+1:Nat)) Z (by first | rfl | (congr 1;omega)) ?_
   refine lk 0 Z Z Z Z Z Z Z Z (hless.at (ac 2 [1,0] Z Z) (ac 2 [1,0] Z Z)) ?_
   by_cases c3:jd (m.getD (2*i+2) []) (m.getD (2*i+1) [])<0
   ·refine a9 32 (.bool true) Z (congrArg Value.bool (decide_eq_true c3)) ?_
    have e:j=2*i+2:=by rw [hj,dnJ,if_pos ⟨c2,c3⟩]
    refine af Z <| bd3 <| aq Z <| ab <| bgi Z Z <| bd3 <| ae <| bd4 <| bgj Z Z Z ?_
    refine a9 36 (.int .i64 j) Z (by congr 1;omega) ?_
    refine a9 9 (.int .i64 j) Z (by congr 1;omega) ?_
    have hless2:=afr (b:=b) (F:=pt gh db [.slice A m.length c]::F) (A:=A) (c:=c) (l:=m) (i:=j) (j:=i) i1 (by omega) (by omega)
    refine lk 0 Z Z Z Z Z Z Z Z (hless2.at (ac 2 [1,0] Z Z) (ac 2 [1,0] Z Z)) ?_
    by_cases c4:jd (m.getD j []) (m.getD i [])<0
    ·refine a9 38 (.bool true) Z (congrArg Value.bool (decide_eq_true c4)) <| af Z <| bd3 <| al Z <| ao <| aa <| bd4 <| bgj Z Z Z ?_
     have hswap:=afs (b:=b) (F:=pt gh db [.slice A m.length c]::F) (A:=A) (c:=c) (n:=m.length) (l:=m) (i:=i) (j:=j) i1 Z (by omega) (by omega)
     refine qi 0 Z Z Z Z Z Z Z Z (hswap.ent (ac 2 [1,0] Z Z)) ?_
     rintro _ _ rfl
     refine bd3 <| ab <| bgi Z Z <| ad <| ba ?_
     refine bj (og m i j,j) ⟨rfl,rfl,rfl,rfl,trivial⟩ (ac 2 [1,0] Z Z) ⟨xg i1 (by omega) (by omega),fz _ _ _,.inr hJ.1,?_⟩ (by dsimp only;omega)
     rw [← i4,hk]
     simp only [dnM,← hj,if_neg c1,if_pos c4]
     exact (akx k _ _ _ (by omega)).symm
    ·refine a9 38 (.bool false) Z (congrArg Value.bool (decide_eq_false c4)) <| af Z <| bd3 <| aq Z <| bu <| av <| ij Z <| ax <| au <| aa <| bd4 <| bgj Z Z Z <| af Z <| bd3 <| aj ?_
     have e9:m=dnM n0 n0 l 0:=by rw [← i4,hk];simp only [dnM,← hj,if_neg c1,if_neg c4]
     refine ai Z (.tmp Z .nil) (ac 0 [] Z Z) ?_
     rw [← e9]
   ·refine a9 32 (.bool false) Z (congrArg Value.bool (decide_eq_false c3)) ?_
    have e:j=2*i+1:=by rw [hj,dnJ,if_neg (fun h=>c3 h.2)]
    refine af Z <| bd3 <| al Z <| ao <| aa <| ae <| bd4 <| bgj Z Z Z ?_
    refine a9 36 (.int .i64 j) Z (by congr 1;omega) ?_
    refine a9 9 (.int .i64 j) Z (by congr 1;omega) ?_
    have hless2:=afr (b:=b) (F:=pt gh db [.slice A m.length c]::F) (A:=A) (c:=c) (l:=m) (i:=j) (j:=i) i1 (by omega) (by omega)
    refine lk 0 Z Z Z Z Z Z Z Z (hless2.at (ac 2 [1,0] Z Z) (ac 2 [1,0] Z Z)) ?_
    by_cases c4:jd (m.getD j []) (m.getD i [])<0
    ·refine a9 38 (.bool true) Z (congrArg Value.bool (decide_eq_true c4)) <| af Z <| bd3 <| al Z <| ao <| aa <| bd4 <| bgj Z Z Z ?_
     have hswap:=afs (b:=b) (F:=pt gh db [.slice A m.length c]::F) (A:=A) (c:=c) (n:=m.length) (l:=m) (i:=i) (j:=j) i1 Z (by omega) (by omega)
     refine qi 0 Z Z Z Z Z Z Z Z (hswap.ent (ac 2 [1,0] Z Z)) ?_
     rintro _ _ rfl
     refine bd3 <| ab <| bgi Z Z <| ad <| ba ?_
     refine bj (og m i j,j) ⟨rfl,rfl,rfl,rfl,trivial⟩ (ac 2 [1,0] Z Z) ⟨xg i1 (by omega) (by omega),fz _ _ _,.inr hJ.1,?_⟩ (by dsimp only;omega)
     rw [← i4,hk]
     simp only [dnM,← hj,if_neg c1,if_pos c4]
     exact (akx k _ _ _ (by omega)).symm
    ·refine a9 38 (.bool false) Z (congrArg Value.bool (decide_eq_false c4)) <| af Z <| bd3 <| aq Z <| bu <| av <| ij Z <| ax <| au <| aa <| bd4 <| bgj Z Z Z <| af Z <| bd3 <| aj ?_
     have e9:m=dnM n0 n0 l 0:=by rw [← i4,hk];simp only [dnM,← hj,if_neg c1,if_neg c4]
     refine ai Z (.tmp Z .nil) (ac 0 [] Z Z) ?_
     rw [← e9]
  ·refine a9 28 (.bool false) Z (by simp;omega) ?_
   (iterate 5 refine af Z ?_)
   refine bd3 <| al Z <| ao <| aa <| ae <| bd4 <| bgj Z Z Z ?_
   have e:j=2*i+1:=by rw [hj,dnJ,if_neg (fun h=>c2 h.1)]
   subst i2
   refine a9 36 (.int .i64 j) Z (by congr 1;omega) ?_
   refine a9 9 (.int .i64 j) Z (by congr 1;omega) ?_
   have hless2:=afr (b:=b) (F:=pt gh db [.slice A m.length c]::F) (A:=A) (c:=c) (l:=m) (i:=j) (j:=i) i1 (by omega) (by omega)
   refine lk 0 Z Z Z Z Z Z Z Z (hless2.at (ac 2 [1,0] Z Z) (ac 2 [1,0] Z Z)) ?_
   by_cases c4:jd (m.getD j []) (m.getD i [])<0
   ·refine a9 38 (.bool true) Z (congrArg Value.bool (decide_eq_true c4)) <| af Z <| bd3 <| al Z <| ao <| aa <| bd4 <| bgj Z Z Z ?_
    have hswap:=afs (b:=b) (F:=pt gh db [.slice A m.length c]::F) (A:=A) (c:=c) (n:=m.length) (l:=m) (i:=i) (j:=j) i1 Z (by omega) (by omega)
    refine qi 0 Z Z Z Z Z Z Z Z (hswap.ent (ac 2 [1,0] Z Z)) ?_
    rintro _ _ rfl
    refine bd3 <| ab <| bgi Z Z <| ad <| ba ?_
    refine bj (og m i j,j) ⟨rfl,rfl,rfl,rfl,trivial⟩ (ac 2 [1,0] Z Z) ⟨xg i1 (by omega) (by omega),fz _ _ _,.inr hJ.1,?_⟩ (by dsimp only;omega)
    rw [← i4,hk]
    simp only [dnM,← hj,if_neg c1,if_pos c4]
    exact (akx k _ _ _ (by omega)).symm
   ·refine a9 38 (.bool false) Z (congrArg Value.bool (decide_eq_false c4)) <| af Z <| bd3 <| aq Z <| bu <| av <| ij Z <| ax <| au <| aa <| bd4 <| bgj Z Z Z <| af Z <| bd3 <| aj ?_
    have e9:m=dnM n0 n0 l 0:=by rw [← i4,hk];simp only [dnM,← hj,if_neg c1,if_neg c4]
    refine ai Z (.tmp Z .nil) (ac 0 [] Z Z) ?_
    rw [← e9]
end

theorem a3w (k:Nat):∀ l j,(upM k l j).length=l.length:=by
 induction k with
 | zero => intro l j; rfl
 | succ k ih => intro l j; simp only [upM]; split; rfl; split; rw [ih, fz]; rfl
theorem a3x (k:Nat):∀ n l j,(dnM k n l j).length=l.length:=by
 induction k with
 | zero => intro n l j; rfl
 | succ k ih => intro n l j; simp only [dnM]; split; rfl; split; rw [ih, fz]; rfl
theorem a7u (k:Nat):∀ n l j,fw l→j<l.length→n≤l.length→fw (dnM k n l j):=by
 induction k with
 | zero => intro n l j h _ _; exact h
 | succ k ih =>
  intro n l j h hj hn;simp only [dnM];split
  ·exact h
  ·rename_i h1
   have:=ahe (l:=l) h1
   split
   ·exact ih _ _ _ (xg h hj (by omega)) (by rw [fz];omega) (by rw [fz];omega)
   ·exact h
def ny (l:List (List Int)):List (List Int):=dnM (l.length - 1) (l.length - 1) (og l 0 (l.length - 1)) 0
theorem aky (l:List (List Int)):(ny l).length=l.length:=by rw [ny,a3x,fz]
theorem a3y {l:List (List Int)} (h:fw l) (hn:0<l.length):fw (ny l):=a7u _ _ _ _ (xg h hn (by omega)) (by rw [fz];exact hn) (by rw [fz];omega)
section
variable {b:World} {F:List SP} {A:Option Addr} {c n gh:Nat} {l:List (List Int)} {x:List Int}
theorem aiu:SC Tryz.prog n_blob_digests_Len [.slice A n c] b F (fun v F'=>v = .int .i64 n∧F'=F):=by
 have:=a64 (b:=b) (F:=F) (A:=A) (c:=c) (l:=List.replicate n [])
 rwa [List.length_replicate] at this
set_option maxHeartbeats 1000000 in
theorem a3z (hl:fw l) (hn:l.length=n) (hx:x.length=32) (hm:n≤900000) :
  SC Tryz.prog sy [.iface gy (.pointer (some ⟨gh,0,none⟩)),.iface t_api_ID (idV x)] b (pt gh db [.slice A n c]::rN A c n l::F)
   (fun _ F'=>∃ A' c',F'=pt gh db [.slice A' (n+1) c']::rN A' c' (n+1) (upM (n+1) (l ++ [x]) n)::F):=by
 refine bf Tryz.func110 Z Z Z <| bd4 <| bgi Z Z <| aac Z Z Z (a2y hx (by omega)) ?_
 rintro _ _ ⟨A',c',rfl⟩
 refine bd3 <| ab <| bgi Z Z <| lk 0 Z Z Z Z Z Z Z Z aiu <| b5 Z (by (unfold I64;omega)) ?_
 refine a9 10 (.int .i64 n) Z (by congr 1;omega) ?_
 have hl':fw (l ++ [x]):=fun a ha=>by
  rcases List.mem_append.1 ha with h | h
  ·exact hl a h
  ·simp at h;subst h;exact hx
 refine bq Z Z Z (bga (n:=n+1) (l:=l ++ [x]) (j:=n) hl' (by simp;omega) (by omega) (by omega)) ?_
 rintro _ _ rfl
 refine ad <| m5 Z .nil (ac 0 [] Z Z) ?_
 exact ⟨A',c',rfl⟩
set_option maxHeartbeats 1000000 in
theorem a7v (hl:fw l) (hn:l.length=n+1) (hm:n≤900000) :
  SC Tryz.prog ul [.iface gy (.pointer (some ⟨gh,0,none⟩))] b (pt gh db [.slice A (n+1) c]::rN A c (n+1) l::F)
   (fun v F'=>v = .iface t_api_ID (idV ((ny l).getD n []))∧F'=pt gh db [.slice A n c]::rN A c n ((ny l).take n)::F):=by
 have p1:=aky l
 have p2:=a3y hl (by omega)
 have ep:ny l=(ny l).take n ++ [(ny l).getD n []]:=by
  have h:=(List.take_append_drop n (ny l)).symm
  have h2:(ny l).drop n = [(ny l).getD n []]:=by
   rw [List.getD_eq_getElem?_getD,List.getElem?_eq_getElem (by omega),Option.getD_some,List.drop_eq_getElem_cons (by omega),List.drop_of_length_le (by omega)]
  rwa [h2] at h
 have hL:((ny l).take n).length=n:=by rw [List.length_take];omega
 have hx:((ny l).getD n []).length=32:=zj p2 (by omega)
 have hp:ny l=dnM n n (og l 0 n) 0:=by rw [ny,hn];rfl
 refine bf Tryz.func113 Z Z Z <| bd4 <| af Z <| a8r <| af Z <| lk 0 Z Z Z Z Z Z Z Z aiu <| b5 Z (by (unfold I64;omega)) <| af Z <| a8r <| bgi Z Z ?_
 refine a9 8 (.int .i64 n) Z (by congr 1;omega) ?_
 refine a9 3 (.int .i64 n) Z (by congr 1;omega) ?_
 have hswap:=afs (b:=b) (F:=pt gh db [.slice A (n+1) c]::F) (A:=A) (c:=c) (n:=n+1) (l:=l) (i:=0) (j:=n) hl hn (by omega) (by omega)
 refine qi 0 Z Z Z Z Z Z Z Z (hswap.ent (ac 2 [1,0] Z Z)) ?_
 rintro _ _ rfl
 refine a8r <| bgi Z Z ?_
 have hd:=a7t (b:=b) (F:=F) (A:=A) (c:=c) (n:=n+1) (gh:=gh) (l:=og l 0 n) (n0:=n) (xg hl (by omega) (by omega)) (by rw [fz];exact hn) (by omega) (by omega)
 rw [← hp,ep] at hd
 refine bq Z Z Z (hd.ent (ac 2 [1,0] Z Z)) ?_
 rintro _ _ rfl
 refine a8r <| af Z ?_
 have hq:=a65 (b:=b) (F:=F) (A:=A) (c:=c) (gh:=gh) (x:=(ny l).getD n []) (l0:=(ny l).take n) (fun a ha=>p2 a (List.mem_of_mem_take ha)) hx
 rw [hL] at hq
 refine aac Z Z Z hq ?_
 rintro _ _ ⟨rfl,rfl⟩
 refine af Z <| bd3 <| aj <| ai Z (.tmp Z .nil) (ac 0 [] Z Z) ?_
 exact ⟨rfl,rfl⟩
end

theorem zo:∀ x y:List UInt8,Lib.compareBytes x y<0→¬ Lib.compareBytes y x<0
 | [], [] => by simp [Lib.compareBytes]
 | [], _ :: _ => by simp [Lib.compareBytes]
 | _ :: _, [] => by simp [Lib.compareBytes]
 | a :: x, b :: y => by
  have ih:=zo x y
  simp only [Lib.compareBytes,UInt8.lt_iff_toNat_lt]
  repeat' split
  all_goals first | omega | exact ih
theorem arg:∀ x y z:List UInt8,¬ Lib.compareBytes y x<0→¬ Lib.compareBytes z y<0→¬ Lib.compareBytes z x<0
 | [], _, [] => by simp [Lib.compareBytes]
 | [], _, _ :: _ => by simp [Lib.compareBytes]
 | _ :: _, [], [] => by simp [Lib.compareBytes]
 | _ :: _, _ :: _, [] => by simp [Lib.compareBytes]
 | _ :: _, [], _ :: _ => by simp [Lib.compareBytes]
 | a :: x, b :: y, c :: z => by
  have ih:=arg x y z
  simp only [Lib.compareBytes,UInt8.lt_iff_toNat_lt]
  repeat' split
  all_goals first | omega | exact ih
def leM (x y:List Int):Prop:=¬ jd y x<0
theorem ae2 {x y:List Int} (h:jd x y<0):leM x y:=zo _ _ h
theorem q7 {x y z:List Int} (h1:leM x y) (h2:leM y z):leM x z:=arg _ _ _ h1 h2
abbrev at' (l:List (List Int)) (i:Nat):List Int:=l.getD i []
theorem aga (l:List (List Int)) {i j:Nat} (hi:i<l.length) (hj:j<l.length) (k:Nat):at' (og l i j) k=if k=j then at' l i else if k=i then at' l j else at' l k:=by
 simp only [at',og,List.getD_eq_getElem?_getD,List.getElem?_set,List.length_set]
 repeat' split
 all_goals first | rfl | omega | simp_all
theorem ae3 {l:List (List Int)} {i j:Nat} (hi:i<l.length) (hj:j<l.length):(og l i j).Perm l:=by
 have:=List.set_set_perm hi hj
 simp only [og,List.getD_eq_getElem?_getD,List.getElem?_eq_getElem hi,List.getElem?_eq_getElem hj,Option.getD_some]
 exact this
def hpN (n:Nat) (l:List (List Int)):Prop:=∀ i,0<i→i<n→leM (at' l ((i - 1) / 2)) (at' l i)
def upI (l:List (List Int)) (j:Nat):Prop:=(∀ i,0<i→i<l.length→i≠j→leM (at' l ((i - 1) / 2)) (at' l i))∧∀ c,0<c→c<l.length→(c - 1) / 2=j→0<j→leM (at' l ((j - 1) / 2)) (at' l c)
theorem a7w (k:Nat):∀ l j,j<k→j<l.length→upI l j→hpN l.length (upM k l j):=by
 induction k with
 | zero => intro l j h; omega
 | succ k ih =>
  intro l j hk hj ⟨h1,h2⟩
  simp only [upM]
  split
  ·rename_i h0;intro i a b;exact h1 i a b (by omega)
  ·rename_i h0
   have hp:(j - 1) / 2<j:=by omega
   split
   ·rename_i hlt
    have sw:=aga l (i:=(j - 1) / 2) (j:=j) (by omega) hj
    have hle:=ae2 hlt
    have:=ih (og l ((j - 1) / 2) j) ((j - 1) / 2) (by omega) (by rw [fz];omega) ⟨fun i a b c=> ?_,fun c a b d e=> ?_⟩
    ·rwa [fz] at this
    ·rw [fz] at b
     rw [sw,sw]
     by_cases e1:i=j
     ·subst e1
      rw [if_neg (by omega),if_pos rfl,if_pos rfl];exact hle
     ·rw [if_neg e1,if_neg c]
      by_cases e2:(i - 1) / 2=j
      ·rw [if_pos e2];exact h2 i a b e2 (by omega)
      ·rw [if_neg e2]
       by_cases e3:(i - 1) / 2=(j - 1) / 2
       ·rw [if_pos e3];exact q7 hle (e3▸h1 i a b e1)
       ·rw [if_neg e3];exact h1 i a b e1
    ·rw [fz] at b
     rw [sw,sw,if_neg (by omega),if_neg (by omega)]
     have hpp:=h1 ((j - 1) / 2) (by omega) (by omega) (by omega)
     by_cases e1:c=j
     ·rw [if_pos e1];exact hpp
     ·rw [if_neg e1,if_neg (by omega)]
      exact q7 hpp (d▸h1 c a b e1)
   ·rename_i hlt
    intro i a b
    by_cases e1:i=j
    ·subst e1;exact hlt
    ·exact h1 i a b e1
theorem a0l (k:Nat):∀ l j,j<l.length→(upM k l j).Perm l:=by
 induction k with
 | zero => intro l j _; exact .refl _
 | succ k ih =>
  intro l j hj
  simp only [upM]
  split
  ·exact .refl _
  ·split
   ·exact (ih _ _ (by rw [fz];omega)).trans (ae3 (by omega) hj)
   ·exact .refl _
def dnI (n:Nat) (l:List (List Int)) (i:Nat):Prop:=(∀ k,0<k→k<n→(k - 1) / 2≠i→leM (at' l ((k - 1) / 2)) (at' l k))∧∀ k,0<k→k<n→(k - 1) / 2=i→0<i→leM (at' l ((i - 1) / 2)) (at' l k)
theorem a7x {n:Nat} {l:List (List Int)} {i:Nat} (k:Nat) (h0:0<k) (hk:k<n) (h:(k - 1) / 2=i):leM (at' l (dnJ n l i)) (at' l k):=by
 have hself:leM (at' l k) (at' l k):=fun h=>zo _ _ h h
 have hk':k=2*i+1∨k=2*i+2:=by omega
 unfold dnJ
 split
 ·rename_i h1
  rcases hk' with rfl | rfl
  ·exact ae2 h1.2
  ·exact hself
 ·rename_i h1
  rcases hk' with rfl | rfl
  ·exact hself
  ·exact fun h2=>h1 ⟨hk,h2⟩
theorem a7y (f:Nat):∀ n l i,n - i≤f→n≤l.length→dnI n l i→hpN n (dnM f n l i):=by
 induction f with
 | zero => intro n l i hf hn ⟨h1, _⟩ k a b; exact h1 k a b (by omega)
 | succ f ih =>
  intro n l i hf hn ⟨h1,h2⟩
  simp only [dnM]
  split
  ·rename_i h0;intro k a b;exact h1 k a b (by omega)
  ·rename_i h0
   have hJ:=ahe (l:=l) h0
   have hJp:(dnJ n l i - 1) / 2=i:=by unfold dnJ;split <;> omega
   have hch:=fun k a b e=>a7x (n:=n) (l:=l) (i:=i) k a b e
   generalize dnJ n l i=j at *
   split
   ·rename_i hlt
    have sw:=aga l (i:=i) (j:=j) (by omega) (by omega)
    have hle:=ae2 hlt
    refine ih n (og l i j) j (by omega) (by rw [fz];exact hn) ⟨fun k a b c=> ?_,fun k a b d e=> ?_⟩
    ·rw [sw,sw]
     by_cases e1:k=j
     ·subst e1
      rw [if_neg (by omega),if_pos hJp,if_pos rfl];exact hle
     ·rw [if_neg e1,if_neg c]
      by_cases e2:k=i
      ·subst e2
       rw [if_neg (by omega),if_pos rfl]
       exact h2 j (by omega) hJ.1 hJp a
      ·rw [if_neg e2]
       by_cases e3:(k - 1) / 2=i
       ·rw [if_pos e3];exact hch k a b e3
       ·rw [if_neg e3];exact h1 k a b e3
    ·rw [sw,sw,if_neg (by omega),if_pos hJp,if_neg (by omega),if_neg (by omega)]
     exact d▸h1 k a b (by omega)
   ·rename_i hlt
    intro k a b
    by_cases e3:(k - 1) / 2=i
    ·rw [e3];exact q7 hlt (hch k a b e3)
    ·exact h1 k a b e3
theorem a0m (f:Nat):∀ n l i,i<l.length→n≤l.length→(dnM f n l i).Perm l:=by
 induction f with
 | zero => intro n l i _ _; exact .refl _
 | succ f ih =>
  intro n l i hi hn
  simp only [dnM]
  split
  ·exact .refl _
  ·rename_i h0
   have hJ:=ahe (l:=l) h0
   split
   ·exact (ih _ _ _ (by rw [fz];omega) (by rw [fz];exact hn)).trans (ae3 hi (by omega))
   ·exact .refl _
theorem a7z (f:Nat):∀ n l i m,n≤m→i<n→n≤l.length→at' (dnM f n l i) m=at' l m:=by
 induction f with
 | zero => intro n l i m _ _ _; rfl
 | succ f ih =>
  intro n l i m hm hi hn
  simp only [dnM]
  split
  ·rfl
  ·rename_i h0
   have hJ:=ahe (l:=l) h0
   split
   ·rw [ih _ _ _ _ hm hJ.1 (by rw [fz];exact hn),aga l (by omega) (by omega),if_neg (by omega),if_neg (by omega)]
   ·rfl
theorem a30 {n:Nat} {l:List (List Int)} (h:hpN n l) (k:Nat):k<n→leM (at' l 0) (at' l k):=by
 induction k using Nat.strongRecOn with
 | ind k ih =>
  intro hk
  rcases Nat.eq_zero_or_pos k with rfl | h0
  ·exact fun h=>zo _ _ h h
  ·exact q7 (ih _ (by omega) (by omega)) (h k h0 hk)
theorem a31 {l:List (List Int)} {x:List Int} (h:hpN l.length l):hpN (l.length+1) (upM (l.length+1) (l ++ [x]) l.length):=by
 have:=a7w (l.length+1) (l ++ [x]) l.length (by omega) (by simp) ⟨fun i a b c=> ?_,fun c a b d e=> ?_⟩
 ·simpa using this
 ·simp only [List.length_append,List.length_cons,List.length_nil] at b
  have:=h i a (by omega)
  simp only [at',List.getD_eq_getElem?_getD] at this ⊢
  rwa [List.getElem?_append_left (by omega),List.getElem?_append_left (by omega)]
 ·simp only [List.length_append,List.length_cons,List.length_nil] at b;omega
theorem a70 {l:List (List Int)} {n:Nat} (hn:l.length=n+1) (h:hpN (n+1) l) :
  hpN n ((ny l).take n)∧((ny l).getD n []::(ny l).take n).Perm l∧∀ x∈(ny l).take n,leM ((ny l).getD n []) x:=by
 have hp:ny l=dnM n n (og l 0 n) 0:=by rw [ny,hn];rfl
 have sw:=aga l (i:=0) (j:=n) (by omega) (by omega)
 have hlen:=aky l
 have hat:(ny l).getD n []=at' l 0:=by
  rcases Nat.eq_zero_or_pos n with rfl | h0
  ·rw [hp];show at' (og l 0 0) 0=_;rw [sw];simp
  ·rw [hp];show at' (dnM n n (og l 0 n) 0) n=_
   rw [a7z n n _ 0 n (Nat.le_refl _) h0 (by rw [fz];omega),sw,if_pos rfl]
 have hperm:(ny l).Perm l:=by rw [hp];exact (a0m _ _ _ _ (by rw [fz];omega) (by rw [fz];omega)).trans (ae3 (by omega) (by omega))
 have ep:ny l=(ny l).take n ++ [(ny l).getD n []]:=by
  have h:=(List.take_append_drop n (ny l)).symm
  have h2:(ny l).drop n = [(ny l).getD n []]:=by
   rw [List.getD_eq_getElem?_getD,List.getElem?_eq_getElem (by omega),Option.getD_some,List.drop_eq_getElem_cons (by omega),List.drop_of_length_le (by omega)]
  rwa [h2] at h
 have hperm2:((ny l).getD n []::(ny l).take n).Perm l:=by
  refine List.Perm.trans ?_ hperm
  conv=>rhs;rw [ep]
  exact (List.perm_append_singleton _ _).symm
 refine ⟨?_,hperm2,fun x hx=> ?_⟩
 ·have:=a7y n n (og l 0 n) 0 (by omega) (by rw [fz];omega) ⟨fun k a b c=> ?_,fun k a b d e=>by omega⟩
  ·rw [← hp] at this
   intro i a b
   have:=this i a b
   simp only [at',List.getD_eq_getElem?_getD] at this ⊢
   rwa [List.getElem?_take,if_pos (by omega),List.getElem?_take,if_pos (by omega)]
  ·rw [sw,sw,if_neg (by omega),if_neg (by omega),if_neg (by omega),if_neg (by omega)]
   exact h k a (by omega)
 ·rw [hat]
  have hm:=hperm.subset (List.mem_of_mem_take hx)
  obtain ⟨k,hk,rfl⟩:=List.mem_iff_getElem.1 hm
  have:=a30 h k (by omega)
  simp only [at',List.getD_eq_getElem?_getD,List.getElem?_eq_getElem hk,Option.getD_some] at this
  simp only [at',List.getD_eq_getElem?_getD]
  exact this

theorem a71 (l:List Kp):(kM l).map (·.1)=l.map (·.id):=by
 induction l with
 | nil => rfl
 | cons e l ih => simp only [kM, List.map_cons, ih]
section
variable {b:World} {F:List SP}
theorem a72 {n:Nat} (hn:n≤1000000):SC Tryz.prog tq [.slice none 0 0,.int .i64 n] b F (fun v F'=>∃ A c,v = .slice A 0 c∧F'=rN A c 0 []::F):=by
 refine bf Tryz.func111 Z Z Z <| bd4 <| af Z <| bd3 <| ae <| bd4 <| bgi Z Z <| bd3 <| al Z <| ao <| aa <| ae <| bd4 ?_
 (iterate 5 refine af Z ?_)
 (iterate 2 refine b5 Z (by (unfold I64;omega)) ?_)
 refine af Z <| a8r <| bgi Z Z <| bd3 ?_
 refine di Z (fun h=> ?_) (fun h=> ?_)
 ·refine ab <| bgj Z Z Z <| b5 Z (by omega) <| af Z ?_
  refine a9 21 (.int .i64 n) Z (by first | rfl | (congr 1;omega)) ?_
  refine a2f (sz:=32) Z Z Z Z Z Z Z Z Z (by omega) (by omega) fun gg c zs=>bgi Z Z <| b5 Z (by omega) <| af Z <| a8r <| bgi Z Z <| bd3 <| aj <| ai Z (.tmp Z .nil) (rh (j:=0) (by omega) 0 Z Z) ?_
  exact ⟨_,_,rfl,rfl⟩
 ·refine ao <| aa <| bd4 <| bgi Z Z <| bd3 <| aj <| ai Z (.tmp Z .nil) ((eh t_api_ID 32 Z).trans (ac 1 [0] Z Z)) ?_
  exact ⟨none,0,rfl,rfl⟩
variable {w r u:Int} {gs gm:Nat} {l:List Kp}
set_option maxHeartbeats 1000000 in
theorem bdx (hid:∀ e∈l,idOk e.id) (hn:l.length≤100000):SC Tryz.prog wy [.pointer (some ⟨gs,0,none⟩)] b (stB gs gm w r u l F)
  (fun v F'=>∃ A c L,v = .slice A L.length c∧L.Pairwise leM∧L.Perm (l.map (·.id))∧F'=rN A c L.length L::stB gs gm w r u l F):=by
 refine bf Tryz.func55 Z Z Z <| bd4 <| af Z <| bd3 <| ae <| bd4 <| af Z <| bh Z Z Z (aj7) <| bd3 <| al Z <| ao <| aa <| bd4 <| aio Z Z Z Z Z fun g0=> ?_
 skip
 refine cq Z Z Z Z Z fun gh=>af Z <| bd3 <| ae <| bd4 <| bgj Z Z Z <| df 2 Z Z Z <| ayd 3 Z Z Z Z Z (fun _=>rfl) Z fun gi=>bd3 <| ar ?_
 refine b6 (S:=List (List Int) × Nat × Option Addr × Nat × List (List Int × Value) × Option (List Int × Value))
  (fun s=> [(0,.pointer (some ⟨gs,0,none⟩)),(3,.pointer (some ⟨gh,0,none⟩)),(14,.pointer (some ⟨gi,0,none⟩))])
  (fun s=>pt gh db [.slice s.2.2.1 s.2.1 s.2.2.2.1]::rN s.2.2.1 s.2.2.2.1 s.2.1 s.1::mr gm gi (fun a:List Int=> .agg ⟨a.map (Value.int .u8)⟩) idOk (kM l) s.2.2.2.2.1 s.2.2.2.2.2::pt gs m9 (stC w r u gm)::all (kF l)::F)
  (fun s=>s.1.length=s.2.1∧hpN s.2.1 s.1∧(s.1++s.2.2.2.2.1.map (·.1)).Perm (l.map (·.id))) (fun s=>s.2.2.2.2.1.length) ([],0,some ⟨g0,0,none⟩,0,kM l,none) ⟨rfl,rfl,rfl,trivial⟩ ?_ ?_ ?_
 ·exact (ac 4 [0,1,3,2] Z Z).trans (iz (n:=0) (sz:=32) Z (by rfl) (by omega) 1 Z Z)
 ·exact ⟨rfl,fun i _ hi=>absurd hi (Nat.not_lt_zero i),by rw [a71];exact .refl _⟩
 rintro ⟨h,n,A,c,R,cur⟩ ⟨i0,i1,i2⟩
 dsimp only at i0 i1 i2 ⊢
 have hlen:n+R.length=l.length:=by have:=i2.length_eq;simpa [i0] using this
 have h32:∀ a,a∈h∨a∈R.map (·.1)→idOk a:=fun a ha=>by
  have:=i2.subset (List.mem_append.2 ha)
  obtain ⟨e,he,rfl⟩:=List.mem_map.1 this
  exact hid e he
 refine bd4 ?_
 refine a2c 2 Z Z Z Z (fun _ _ _=>rfl) Z (fun hR=> ?_) (fun R1 y R2 hR=> ?_)
 ·subst hR
  refine af Z <| bd3 <| ae <| al Z <| bu <| av <| ax <| au <| aa <| bd4 <| bgi Z Z <| df 0 Z Z Z <| bh Z Z Z (aiu) ?_
  skip
  refine bq Z Z Z (a72 (by omega)) ?_
  rintro _ _ ⟨Ao,co,rfl,rfl⟩
  refine af Z <| bd3 <| ae <| ar ?_
  refine b6 (S:=List (List Int) × Nat × List (List Int) × Nat × Option Addr × Nat)
   (fun s=> [(3,.pointer (some ⟨gh,0,none⟩)),(5,.slice s.2.2.2.2.1 s.2.2.2.1 s.2.2.2.2.2)])
   (fun s=>pt gh db [.slice A s.2.1 c]::rN A c s.2.1 s.1::rN s.2.2.2.2.1 s.2.2.2.2.2 s.2.2.2.1 s.2.2.1::stB gs gm w r u l F)
   (fun s=>s.1.length=s.2.1∧s.2.2.1.length=s.2.2.2.1∧hpN s.2.1 s.1∧(s.2.2.1++s.1).Perm (l.map (·.id))∧s.2.2.1.Pairwise leM∧∀ x∈s.2.2.1,∀ y∈s.1,leM x y) (fun s=>s.2.1) (h,n,[],0,Ao,co) ⟨rfl,rfl,trivial⟩ ?_ ?_ ?_
  ·exact ((ac 5 [1,2,0,4,3] Z Z).trans (a58 4 Z Z))
  ·exact ⟨i0,rfl,i1,by simpa using i2,.nil,fun x hx=>by simp at hx⟩
  rintro ⟨h2,n2,out,no,Ao2,co2⟩ ⟨j0,j00,j1,j2,j3,j4⟩
  dsimp only at j0 j00 j1 j2 j3 j4 ⊢
  have hlen2:no+n2=l.length:=by have:=j2.length_eq;simpa [j0,j00] using this
  have h32':∀ a,a∈out∨a∈h2→idOk a:=fun a ha=>by
   have:=j2.subset (List.mem_append.2 ha)
   obtain ⟨e,he,rfl⟩:=List.mem_map.1 this
   exact hid e he
  refine ae <| bd4 <| bgi Z Z <| df 0 Z Z Z <| bh Z Z Z (aiu) <| af Z <| bd3 ?_
  refine di Z (fun h0=> ?_) (fun h0=> ?_)
  ·obtain ⟨m,rfl⟩:∃ m,n2=m+1:=⟨n2 - 1,by omega⟩
   obtain ⟨q1,q2,q3⟩:=a70 j0 j1
   refine ao <| aa <| ar <| ab <| bgj Z Z Z <| bq Z Z Z (a7v (fun a ha=>(h32' a (.inr ha)).1) j0 (by omega)) ?_
   rintro _ _ ⟨rfl,rfl⟩
   have hx:((ny h2).getD m []).length=32:=(h32' _ (.inr (q2.subset List.mem_cons_self))).1
   have hl2:=aky h2
   generalize (ny h2).getD m []=x at *
   have hl3:((ny h2).take m).length=m:=by rw [List.length_take];omega
   generalize (ny h2).take m=h3 at *
   skip
   refine a4h Z Z Z Z Z Z ?_
   refine ky Z Z Z Z Z Z Z (by rw [bg,hx];rfl) (by decide) fun gl=> ?_
   refine dx 3 Z Z Z Z Z Z Z Z Z (m:=1) (news:=u8s x) (fun w H=>(H.blk (k:=0) Z).sl (by rw [bg,hx]) (by decide)) (dt _) (by omega) (fun _=>rfl) fun v8=> ?_
   rw [afu]
   refine b9 (fun w H=>(H.oat (k:=3) Z).form) ?_
   rintro ⟨A7,c7,rfl,_,_,_⟩
   refine af Z <| ad <| ba ?_
   refine bj (h3,m,out ++ [x],no+1,A7,c7) ⟨rfl,rfl,trivial⟩ (ac 4 [1,2,3] Z Z) ⟨hl3,by simp;omega,q1,?_,?_,?_⟩ (by dsimp only;omega)
   ·dsimp only
    rw [List.append_assoc]
    exact (List.Perm.append_left out q2).trans j2
   ·refine List.pairwise_append.2 ⟨j3,by simp,fun a ha z hz=> ?_⟩
    obtain rfl:z=x:=by simpa using hz
    exact j4 a ha z (q2.subset List.mem_cons_self)
   ·intro a ha z hz
    rcases List.mem_append.1 ha with ha | ha
    ·exact j4 a ha z (q2.subset (List.mem_cons_of_mem _ hz))
    ·obtain rfl:a=x:=by simpa using ha
     exact q3 z hz
  ·refine bu <| av <| ax <| au <| aa <| bd4 <| bgi Z Z <| bd3 <| aj ?_
   obtain rfl:h2 = []:=List.eq_nil_of_length_eq_zero (by omega)
   subst j00
   refine ai Z (.tmp Z .nil) (ac 3 [2] Z Z) ?_
   exact ⟨Ao2,co2,out,rfl,j3,by simpa using j2,rfl⟩
 ·subst hR
  have hy:=h32 y.1 (.inr (by simp))
  have hl3:n+(R1.length+(R2.length+1))=l.length:=by simpa using hlen
  refine af Z <| bd3 <| ae <| aq Z <| ao <| aa <| ar <| bd4 <| aye 2 Z Z Z Z Z <| af Z <| ek Z Z Z Z Z fun g4=> ?_
  refine im 0 Z Z Z Z Z Z Z (by rw [bg,hy.1];rfl) (dt _) (by simp [hy.1]) ?_
  refine bd3 <| ab <| bgi Z Z <| dk 0 Z Z Z Z Z Z (ig hy.1) Z <| af Z <| bq Z Z Z ((a3z (x:=y.1) (fun a ha=>(h32 a (.inl ha)).1) i0 hy.1 (by omega)).ent (ac 3 [1,2] Z Z)) ?_
  rintro _ _ ⟨A',c',rfl⟩
  refine ad <| ba ?_
  subst i0
  refine bj (upM (h.length+1) (h ++ [y.1]) h.length,h.length+1,A',c',R1++R2,some y) ⟨rfl,rfl,rfl,trivial⟩ (Ent.refl _) ⟨by rw [a3w];simp,a31 i1,?_⟩ (by simp)
  refine (List.Perm.append_right _ (a0l _ _ _ (by simp))).trans (List.Perm.trans ?_ i2)
  simp only [List.append_assoc,List.map_append,List.map_cons]
  refine List.Perm.append_left h ?_
  exact (List.perm_middle (l₁:=R1.map (·.1)) (a:=y.1)).symm
end

section
variable {b:World} {F:List SP} {p:Value} {id:List Int} (hn:∀ A:List SP,SC Tryz.prog p6 [p] b (A++F) (fun v F'=>v = .bool true∧F'=A++F))
include hn
end
section
variable {b:World} {F:List SP} {q A0:Option Addr} {n0 c0:Nat} {id:List Int} (hn:∀ A:List SP,SC Tryz.prog p6 [.pointer q] b (A++F) (fun v F'=>v = .bool true∧F'=A++F))
include hn
end
set_option maxRecDepth 100000

section
variable {b:World} {F:List SP} {gs gm:Nat} {w r u u':Int} {l:List Kp} {s:ByteArray} {is:Bool} {e:Int} {Pl:List Kp→Prop}
end
theorem a32 (s:ByteArray):ii (ef s):=by
 intro c hc
 obtain ⟨x,_,rfl⟩:=List.mem_map.1 hc
 have:=x.toNat_lt
 omega
theorem akz (xs:List Int) (w:Int):idOk (ot (nx xs) w):=a2w (uo _ _ (zf _)) (awn (awm _) w)
section
variable {b:World} {F:List SP}
end


section
variable {b:World} {F:List SP}
end

section
variable {b:World} {F:List SP} {v:Value} {xss:List (List Int)} {n m:Int}
end

section
variable {b:World} {F:List SP} {va vb:Value} {xs ys:List Int} {id:List Int}
end


theorem aiv:∀ x y:List UInt8,¬ Lib.compareBytes x y<0→¬ Lib.compareBytes y x<0→x=y
 | [], [] => by simp
 | [], _ :: _ => by simp [Lib.compareBytes]
 | _ :: _, [] => by simp [Lib.compareBytes]
 | a :: x, b :: y => by
  have ih:=aiv x y
  simp only [Lib.compareBytes,UInt8.lt_iff_toNat_lt]
  intro h1 h2
  by_cases h3:a.toNat<b.toNat
  ·rw [if_pos h3] at h1;omega
  ·by_cases h4:b.toNat<a.toNat
   ·rw [if_pos h4] at h2;omega
   ·rw [if_neg h3,if_neg h4] at h1
    rw [if_neg h4,if_neg h3] at h2
    have e:a=b:=UInt8.toNat_inj.1 (by omega)
    rw [e,ih h1 h2]
theorem aou {x y:List Int} (hx:ii x) (hy:ii y) (h:u8l x=u8l y):x=y:=by
 induction x generalizing y with
 | nil => cases y with
  | nil => rfl
  | cons b y => simp [u8l] at h
 | cons a x ih => cases y with
  | nil => simp [u8l] at h
  | cons b y =>
   simp only [u8l,List.map_cons,List.cons.injEq] at h
   have h1:=hx a (by simp);have h2:=hy b (by simp)
   have h3:=congrArg UInt8.toNat h.1
   simp only [UInt8.toNat_ofNat'] at h3
   rw [ih (fun c hc=>hx c (by simp [hc])) (fun c hc=>hy c (by simp [hc])) h.2]
   congr 1;omega
theorem arh {x y:List Int} (hx:ii x) (hy:ii y) (h:leM x y) (hne:x≠y):jd x y<0 :=
 Classical.byContradiction fun h2=>hne (aou hx hy (aiv _ _ h2 h))
theorem il {a:List Int} (h:idOk a):ii a:=fun x hx=>(a2v x).1 (h.2 x hx)

abbrev dg (xs:List Int) (w:Int):List Int:=ot (nx xs) w
def r7 (l:List Kp):Int:=(l.map fun e=>(e.b.length:Int)).sum
structure StI (w r u:Int) (l:List Kp):Prop where
 nd:(l.map (·.id)).Nodup
 ids:∀ e∈l,e.id=dg e.b w
 bw:∀ e∈l,ii e.b
 ln:∀ e∈l,e.b.length≤4100
 us:u=r7 l
 ur:u≤r
theorem StI.nil (w:Int) {r:Int} (h:0≤r):StI w r 0 []:=⟨by simp,by simp,by simp,by simp,rfl,h⟩
theorem ahf {a:List Int} {l:List Kp} {e:Kp} (h:kw a l=some e):e∈l∧e.id=a:=by
 obtain ⟨l1,l2,rfl,h2,_⟩:=au3 h
 exact ⟨by simp,h2⟩
theorem att {a:List Int} {l:List Kp} (h:kw a l=none):∀ e∈l,e.id≠a:=by
 induction l with
 | nil => simp
 | cons x l ih =>
  simp only [kw] at h
  split at h
  ·cases h
  ·rename_i hx
   intro e he
   rcases List.mem_cons.1 he with rfl | he
   ·exact hx
   ·exact ih h e he
theorem a0n {l:List Kp} (h:(l.map (·.id)).Nodup) {e:Kp} (he:e∈l):kw e.id l=some e:=by
 induction l with
 | nil => simp at he
 | cons x l ih =>
  simp only [List.map_cons,List.nodup_cons] at h
  rcases List.mem_cons.1 he with rfl | he
  ·rw [kw,if_pos rfl]
  ·rw [kw,if_neg (show ¬ x.id=e.id from fun e1=>h.1 (by rw [e1];exact List.mem_map_of_mem he))]
   exact ih h.2 he
theorem atu (l1 l2:List Kp):r7 (l1++l2)=r7 l1+r7 l2:=by simp [r7]
theorem axc (l:List Kp):0≤r7 l:=by
 induction l with
 | nil => exact Int.le_refl _
 | cons x l ih =>
  have:r7 (x::l)=(x.b.length:Int)+r7 l:=by simp [r7]
  omega
theorem StI.put {w r u:Int} {l:List Kp} (h:StI w r u l) {xs:List Int} {g:Nat} {v1:Value} (hn:kw (dg xs w) l=none) (hx:ii xs) (hlen:xs.length≤4100) (hr:u+xs.length≤r):StI w r (u+xs.length) (l ++ [⟨dg xs w,xs,g,v1⟩]):=by
 have hm:∀ e∈l ++ [(⟨dg xs w,xs,g,v1⟩:Kp)],e∈l∨e=⟨dg xs w,xs,g,v1⟩:=fun e he=>by simpa using he
 refine ⟨?_,fun e he=> ?_,fun e he=> ?_,fun e he=> ?_,?_,hr⟩
 ·simp only [List.map_append,List.map_cons,List.map_nil]
  refine List.nodup_append.2 ⟨h.nd,by simp,fun a ha z hz=> ?_⟩
  obtain ⟨e,he,rfl⟩:=List.mem_map.1 ha
  obtain rfl:z=dg xs w:=by simpa using hz
  exact att hn e he
 ·rcases hm e he with he | rfl
  ·exact h.ids e he
  ·rfl
 ·rcases hm e he with he | rfl
  ·exact h.bw e he
  ·exact hx
 ·rcases hm e he with he | rfl
  ·exact h.ln e he
  ·exact hlen
 ·rw [atu,← h.us];simp [r7]
theorem a0o {a b:List Int} (h:a.Perm b):a.sum=b.sum:=by
 induction h with
 | nil => rfl
 | cons x _ ih => simp [ih]
 | swap x y l => simp; omega
 | trans _ _ h1 h2 => exact h1.trans h2

section
variable {b:World} {F:List SP} {gs gm:Nat} {w r u:Int} {l:List Kp}
end

section
variable {b:World} {F:List SP} {gs gm:Nat} {w r u:Int} {l:List Kp}
end


structure RB where
 id:List Int
 b:List Int
 v:Value
def xo:List RB→List Value
 | [] => []
 | e :: l => (u8s e.id ++ [e.v]) ++ xo l
def aii (L:List RB):Prop:=∀ e∈L,e.id.length=32
theorem ak0 (a b:List RB):xo (a++b)=xo a++xo b:=by
 induction a with
 | nil => rfl
 | cons e a ih => simp only [List.cons_append, xo, ih, List.append_assoc]
theorem ari {L:List RB} (h:aii L):(xo L).length=L.length*33:=by
 induction L with
 | nil => rfl
 | cons e L ih =>
  have:=h e (by simp)
  simp only [xo,List.length_append,bg,this,List.length_cons,List.length_nil,ih fun x hx=>h x (by simp [hx])];omega
theorem arj {L M:List RB} (h:aii L) (hs:∀ e∈M,e∈L):aii M:=fun e he=>h e (hs e he)
theorem axd {L:List RB} (h:aii L) (j:Nat) (hj:j≤L.length):(xo L).take (j*33)=xo (L.take j):=by
 conv=>lhs;rw [← List.take_append_drop j L,ak0]
 rw [List.take_left' (by rw [ari (arj h fun e he=>List.mem_of_mem_take he),List.length_take];congr 1;omega)]
theorem ahg {L:List RB} (h:aii L) (j:Nat) (hj:j≤L.length):(xo L).drop (j*33)=xo (L.drop j):=by
 conv=>lhs;rw [← List.take_append_drop j L,ak0]
 rw [List.drop_left' (by rw [ari (arj h fun e he=>List.mem_of_mem_take he),List.length_take];congr 1;omega)]
theorem avi {L:List RB} (h:aii L) {i:Nat} (hi:i<L.length):((xo L).drop (i*33)).take 32=u8s L[i].id:=by
 rw [ahg h i (by omega),List.drop_eq_getElem_cons hi]
 have:=h _ (List.getElem_mem hi)
 simp only [xo,List.append_assoc]
 rw [List.take_left' (by rw [bg,this])]
theorem a0p {L:List RB} (h:aii L) {i:Nat} (hi:i<L.length):(xo L)[i*33+32]? = some L[i].v:=by
 have h1:((xo L).drop (i*33))[32]? = some L[i].v:=by
  rw [ahg h i (by omega),List.drop_eq_getElem_cons hi]
  have:=h _ (List.getElem_mem hi)
  simp only [xo,List.append_assoc]
  rw [List.getElem?_append_right (by rw [bg,this];omega),bg,this];rfl
 rw [List.getElem?_drop] at h1;exact h1
def rE (v:Value) (xs:List Int):SP:=fun h=>(xs = []∧∃ A c,v = .slice A 0 c∧c≤maxLen∧(A=none→c=0))∨rB v xs h
theorem vlE {b:World} {F:List SP} {k:Nat} {v:Value} {xs:List Int} (hk:nth F k=some (rE v xs)):∀ w,Sat b F w→VL (Value.int .u8) w v xs:=fun w H=>by
 obtain ⟨h1,l,hA⟩:=H.mem.get hk
 rcases hA with ⟨rfl,A,c,rfl,h2,h3⟩ | hA
 ·exact ⟨A,c,rfl,rfl,Nat.zero_le _,h2,h3,fun h=>absurd h (Nat.lt_irrefl 0)⟩
 ·exact (ank l hA).sl
def zp:List RB→List SP
 | [] => []
 | e :: l => rE e.v e.b :: zp l
theorem agb (a b:List RB):zp (a++b)=zp a++zp b:=by
 induction a with
 | nil => rfl
 | cons e a ih => simp only [List.cons_append, zp, ih]
abbrev rR (A:Option Addr) (c n:Nat) (L:List RB):SP:=row pb 33 (.slice A n c) n (xo L)
abbrev stR (gr:Nat) (w r:Int) (A:Option Addr) (c n:Nat) (L:List RB) (F:List SP):List SP:=pt gr j5 [.int .i64 w,.int .i64 r,.slice A n c]::rR A c n L::all (zp L)::F
section
variable {b:World} {F:List SP} {gr:Nat} {w r:Int} {A:Option Addr} {c n:Nat} {L:List RB}
theorem a0q (h:ah2 w r):SC Tryz.prog vc [.int .i64 w,.int .i64 r] b F (fun v F'=>∃ gr,v = .tuple ⟨[.pointer (some ⟨gr,0,none⟩),.int .i64 0]⟩∧F'=stR gr w r none 0 0 [] F):=by
 obtain ⟨h1,h2,h3,h4⟩:=h
 refine bf Tryz.func39 Z Z Z <| bd4 <| bgi Z Z <| bd3 <| ae <| bd4 <| bgj Z Z Z <| f0 8 Z (fun h=>(h1 h).elim) (fun h=>bgj Z Z Z <| af Z <| f0 12 Z (fun h=>(h2 h).elim) (fun h=>bgj Z Z Z <| af Z <| f0 16 Z (fun h=>(h3 h).elim) (fun h=>bgj Z Z Z <| bd3 <| di Z (fun h=>(h4 h).elim) (fun h=>ao <| aa <| bd4 <| bgj Z Z Z <| cq Z Z Z Z Z fun gr=>bgi Z Z <| bd3 <| aj <| ai Z (.tmp Z (.tmp Z .nil)) ((eh pb 33 Z).trans ((ji (G:= []) (F:=rR none 0 0 []::pt gr j5 [.int .i64 w,.int .i64 r,.slice none 0 0]::F)).trans (ac 3 [2,1,0] Z Z))) ?_))))
 exact ⟨gr,rfl,rfl⟩
def atM (id:List Int):List RB→Nat
 | [] => 0
 | e :: l => if zh e.id id < 0 then atM id l + 1 else 0
theorem aov (id:List Int) (L:List RB):atM id L≤L.length:=by
 induction L with
 | nil => exact Nat.le_refl _
 | cons e L ih => simp only [atM, List.length_cons]; split <;> omega
theorem zq {id:List Int}:∀ {L:List RB} {i:Nat} (hi:i<L.length),i≤atM id L→(i<atM id L↔zh L[i].id id<0)
 | e :: L, 0, _, _ => by simp only [atM, List.getElem_cons_zero]; split <;> simp_all
 | e :: L, i + 1, hi, h => by
  simp only [atM,List.getElem_cons_succ] at h ⊢
  split at h
  ·rename_i h1
   rw [if_pos h1]
   have:=zq (L:=L) (id:=id) (i:=i) (by simpa using hi) (by omega)
   rw [← this];omega
  ·omega
def isM (id:List Int) (L:List RB):Bool:=match L[atM id L]? with | some e=>decide (e.id=id) | none=>false
set_option maxHeartbeats 1000000 in
theorem bgf {id:List Int} (hid:id.length=32) (h32:aii L) (hn:n=L.length) (hm:n≤100000):SC Tryz.prog xa [.pointer (some ⟨gr,0,none⟩),idV id] b (stR gr w r A c n L F)
  (fun v F'=>v = .tuple ⟨[.int .i64 (atM id L),.bool (isM id L)]⟩∧F'=stR gr w r A c n L F):=by
 have hle:=aov id L
 refine bf Tryz.func147 Z Z Z <| bt (fun w H=>(H.oat (k:=1) Z).form) ?_
 rintro ⟨A',c',hv,k1,k2,k3⟩
 cases hv
 refine bd4 <| cq Z Z Z Z Z fun g3=>bgi Z Z <| a8r <| af Z <| bd3 <| ae <| ar <| b6 (S:=Nat) (fun i=> [(0,.pointer (some ⟨gr,0,none⟩)),(3,.pointer (some ⟨g3,0,none⟩)),(6,.int .i64 (i:Int))]) (fun _=>pt g3 t_api_ID (u8s id)::stR gr w r A c n L F) (fun i=>i≤atM id L) (fun i=>atM id L - i) 0 ⟨rfl,rfl,rfl,trivial⟩ (Ent.refl _) (Nat.zero_le _) ?_
 intro i hi
 subst hn
 refine ae <| ae <| b7 flo (pt g3 t_api_ID (u8s id)::stR gr w r A c L.length L F) (by decide +kernel) (Ent.refl _) <| ay Z Zl <| ay Z Zl <| ay Z Zl <| ay Z Zl <| de 1 Z Z Z Z <| ay Z Zl <| ay Z Zl <| ay Z Zl ?_
 by_cases h1:i<L.length
 ·refine b4 14 (.bool true) Z (by simp;omega) ?_
  obtain ⟨gL,oL,rfl⟩:=k3 (by omega)
  have hst:=zq h1 hi
  have hs:=avi h32 h1
  have hx:=h32 _ (List.getElem_mem h1)
  have hM:i=atM id L→isM id L=decide (L[i].id=id):=fun e=>by simp only [isM,← e,List.getElem?_eq_getElem h1]
  generalize L[i].id=x at *
  refine ay Z Zl <| ay Z Zl <| ay Z Zl <| de 1 Z Z Z Z <| ay Z Zl <| dj Z Z (by omega) <| ay Z Zl ?_
  refine ri 2 (i*33) Z Z Z Z Z Z Z Z (by rw [bi,Int.toNat_natCast];rfl) (by omega) hs (by rw [bg,hx];rfl) ?_
  refine jm 0 Z Z Z Z Z Z (ig hid) Z Z <| cz Z Z Z Z (aas hx hid) (Ent.refl _) <| ay Z Zl <| ay Z Zl <| az <| aa ?_
  refine di Z (fun h2=> ?_) (fun h2=> ?_)
  ·refine ao <| aa <| ar <| ab <| af Z <| b5 Z (by (unfold I64;omega)) <| af Z <| ad <| ba ?_
   refine bj (i+1) ⟨rfl,rfl,rfl,trivial⟩ (Ent.refl _) ?_ ?_
   ·show i+1≤atM id L
    have:=hst.2 h2
    omega
   ·show atM id L - (i+1)<atM id L - i
    have:=hst.2 h2
    omega
  ·have hia:i=atM id L:=by
    have:¬ i<atM id L:=fun h=>h2 (hst.1 h)
    omega
   have hM:=hM hia
   refine bu <| av <| ax <| au <| aa <| ae <| b7 flo (pt g3 t_api_ID (u8s id)::stR gr w r (some ⟨gL,oL,none⟩) c L.length L F) (by decide +kernel) (Ent.refl _) ?_
   (iterate 5 refine ay Z Zl ?_)
   refine de 1 Z Z Z Z <| ay Z Zl <| ay Z Zl <| ay Z Zl ?_
   refine b4 37 (.bool true) Z (by simp;omega) ?_
   refine ay Z Zl <| ay Z Zl <| ay Z Zl <| de 1 Z Z Z Z <| ay Z Zl <| dj Z Z (by omega) <| ay Z Zl ?_
   refine ri 2 (i*33) Z Z Z Z Z Z Z Z (by rw [bi,Int.toNat_natCast];rfl) (by omega) hs (by rw [bg,hx];rfl) ?_
   refine jm 0 Z Z Z Z Z Z (ig hid) Z Z <| qz Z (yi (as00:=x) (bs:=id) Z Z hx hid) Z Z <| ay Z Zl <| ay Z Zl <| ay Z Zl <| az <| aa <| aj <| ai Z (.tmp Z (.tmp Z .nil)) (ac 1 [] Z Z) ?_
   exact ⟨by rw [← hia,hM];rfl,rfl⟩
 ·have hia:i=atM id L:=by omega
  have hM:isM id L=false:=by simp only [isM,List.getElem?_eq_none (show L.length≤atM id L by omega)]
  refine b4 14 (.bool false) Z (by simp;omega) ?_
  (iterate 9 refine ay Z Zl ?_)
  refine ay Z (.inr Z) <| ay Z Zl <| ay Z Zl <| az <| aa <| al Z <| bu <| av <| ax <| au <| aa <| ae <| b7 flo (pt g3 t_api_ID (u8s id)::stR gr w r A c L.length L F) (by decide +kernel) (Ent.refl _) ?_
  (iterate 5 refine ay Z Zl ?_)
  refine de 1 Z Z Z Z <| ay Z Zl <| ay Z Zl <| ay Z Zl ?_
  refine b4 37 (.bool false) Z (by simp;omega) ?_
  (iterate 13 refine ay Z Zl ?_)
  refine az <| aa <| aj <| ai Z (.tmp Z (.tmp Z .nil)) (ac 1 [] Z Z) ?_
  exact ⟨by rw [← hia,hM];rfl,rfl⟩
def xx (L:List RB):Int:=(L.map fun e=>(e.b.length:Int)).sum
theorem ark (a b:List RB):xx (a++b)=xx a+xx b:=by simp [xx]
theorem aow (L:List RB):0≤xx L:=by
 induction L with
 | nil => exact Int.le_refl _
 | cons x L ih =>
  have:xx (x::L)=(x.b.length:Int)+xx L:=by simp [xx]
  omega
theorem axe {L:List RB} {i:Nat} (hi:i<L.length):xx (L.take (i+1))=xx (L.take i)+L[i].b.length:=by
 rw [List.take_succ_eq_append_getElem hi,ark];simp [xx]
theorem agc (L:List RB) (i:Nat):xx (L.take i)≤xx L:=by
 conv=>rhs;rw [← List.take_append_drop i L]
 rw [ark];have:=aow (L.drop i);omega
theorem a73 {L:List RB} {i:Nat} (hi:i<L.length):(zp L).Perm (rE L[i].v L[i].b::zp (L.take i++L.drop (i+1))):=by
 conv=>lhs;rw [← List.take_append_drop i L,List.drop_eq_getElem_cons hi,agb,zp]
 rw [agb]
 exact List.perm_middle
theorem a0r {b:World} {F:List SP} {k:Nat} {L:List RB} (hk:nth F k=some (all (zp L))) {i:Nat} (hi:i<L.length):∀ w,Sat b F w→VL (Value.int .u8) w L[i].v L[i].b:=fun w H=>by
 obtain ⟨h1,l,hA⟩:=H.mem.get hk
 have h2:adf (rE L[i].v L[i].b::zp (L.take i++L.drop (i+1))) (ph w):=(np (a73 hi) _ hA).mono l
 exact vlE (k:=0) (F:=rE L[i].v L[i].b::zp (L.take i++L.drop (i+1))) Z w ⟨H.os,H.tape,H.output,h2⟩
set_option maxHeartbeats 1000000 in
theorem axf (h32:aii L) (hn:n=L.length) (hm:n≤100000) (hs:xx L≤67108864):SC Tryz.prog u4 [.pointer (some ⟨gr,0,none⟩)] b (stR gr w r A c n L F)
  (fun v F'=>v = .int .i64 (xx L)∧F'=stR gr w r A c n L F):=by
 subst hn
 refine bf Tryz.func157 Z Z Z <| bt (fun w H=>(H.oat (k:=1) Z).form) ?_
 rintro ⟨A',c',hv,k1,k2,k3⟩
 cases hv
 refine bd4 <| af Z <| a8r <| af Z <| bd3 <| ae <| bd4 <| af Z <| bd3 <| ar <| b6 (S:=Nat) (fun i=> [(0,.pointer (some ⟨gr,0,none⟩)),(3,.int .i64 (xx (L.take i))),(4,.int .i64 (i:Int))]) (fun _=>stR gr w r A c L.length L F) (fun i=>i≤L.length) (fun i=>L.length - i) 0 ⟨rfl,rfl,rfl,trivial⟩ (Ent.refl _) (Nat.zero_le _) ?_
 intro i hi
 have q1:=aow (L.take i)
 have q2:=agc L i
 refine ae <| bd4 <| bgj Z Z Z <| af Z <| df 0 Z Z Z <| bgi Z Z <| bd3 ?_
 refine di Z (fun h1=> ?_) (fun h1=> ?_)
 ·have h1':i<L.length:=by omega
  obtain ⟨gL,oL,rfl⟩:=k3 (by omega)
  have q3:=axe h1'
  have q4:=agc L (i+1)
  have hc:=nq (b:=b) (F:=stR gr w r (some ⟨gL,oL,none⟩) c L.length L F) (k:=1) Z (a0p h32 h1')
  refine ao <| aa <| ae <| ar <| ab <| bgj Z Z Z <| af Z <| df 0 Z Z Z <| af Z <| b5 Z (by omega) <| af Z ?_
  refine iu Z (fun w H=>bm Z Z Z (by rw [bi,Int.toNat_natCast,Nat.add_assoc];exact hc w H)) Z ?_
  refine b9 (fun w H=>(a0r (k:=2) Z h1' w H).form) ?_
  rintro ⟨A3,c3,hv3,m1,m2,m3,m4⟩
  refine a9 22 (.slice A3 L[i].b.length c3) Z hv3 <| af Z <| b5 Z (by (unfold I64;omega)) <| af Z <| ad <| ba <| aa <| ab <| af Z <| b5 Z (by (unfold I64;omega)) <| af Z <| ad ?_
  refine bj (i+1) ⟨rfl,by rw [q3];rfl,rfl,trivial⟩ (Ent.refl _) ?_ ?_
  ·show i+1≤L.length
   omega
  ·show L.length - (i+1)<L.length - i
   omega
 ·refine bu <| av <| ax <| au <| aa <| bd4 <| bgi Z Z <| bd3 <| aj ?_
  obtain rfl:i=L.length:=by omega
  refine ai Z (.tmp Z .nil) (Ent.refl _) ?_
  exact ⟨by rw [List.take_length];rfl,rfl⟩
set_option maxHeartbeats 1000000 in
theorem a0s (h32:aii L) (hn:n=L.length) (hm:n≤100000):SC Tryz.prog oc [.pointer (some ⟨gr,0,none⟩)] b (stR gr w r A c n L F)
  (fun v F'=>∃ A1 c1,v = .slice A1 L.length c1∧F'=rN A1 c1 L.length (L.map (·.id))::stR gr w r A c n L F):=by
 subst hn
 refine bf Tryz.func56 Z Z Z <| bt (fun w H=>(H.oat (k:=1) Z).form) ?_
 rintro ⟨A',c',hv,k1,k2,k3⟩
 cases hv
 refine bd4 <| af Z <| a8r <| af Z <| bd3 <| ae <| bd4 <| af Z <| bd3 <| ar <| b6 (S:=Nat × Option Addr × Nat) (fun s=> [(0,.pointer (some ⟨gr,0,none⟩)),(3,.slice s.2.1 s.1 s.2.2),(4,.int .i64 (s.1:Int))]) (fun s=>rN s.2.1 s.2.2 s.1 ((L.take s.1).map (·.id))::stR gr w r A c L.length L F) (fun s=>s.1≤L.length) (fun s=>L.length - s.1) (0,none,0) ⟨rfl,rfl,rfl,trivial⟩ (eh t_api_ID 32 Z) (Nat.zero_le _) ?_
 rintro ⟨i,A1,c1⟩ hi
 dsimp only at hi ⊢
 refine ae <| bd4 <| bgj Z Z Z <| af Z <| df 1 Z Z Z <| bgi Z Z <| bd3 ?_
 refine di Z (fun h1=> ?_) (fun h1=> ?_)
 ·have h1':i<L.length:=by omega
  obtain ⟨gL,oL,rfl⟩:=k3 (by omega)
  have hs:=avi h32 h1'
  have hx:=h32 _ (List.getElem_mem h1')
  have ht:(L.take (i+1)).map (·.id)=(L.take i).map (·.id) ++ [L[i].id]:=by rw [List.take_succ_eq_append_getElem h1',List.map_append];rfl
  generalize L[i].id=x at *
  refine ao <| aa <| ae <| ar <| ab <| bgj Z Z Z <| af Z <| df 1 Z Z Z <| af Z <| b5 Z (by omega) <| af Z ?_
  refine abn 2 (i*33) Z Z Z Z Z Z Z (by rw [bi,Int.toNat_natCast];rfl) (by omega) hs (by rw [bg,hx];rfl) ?_
  refine ky Z Z Z Z Z Z Z (by rw [bg,hx];rfl) (by decide) fun gl=> ?_
  refine dx 1 Z Z Z Z Z Z Z Z Z (m:=1) (news:=u8s x) (fun w H=>(H.blk (k:=0) Z).sl (by rw [bg,hx]) (by decide)) (dt _) (by omega) (fun _=>rfl) fun v8=> ?_
  rw [afu,← ht]
  refine b9 (fun w H=>(H.oat (k:=1) Z).form) ?_
  rintro ⟨A7,c7,rfl,_,_,_⟩
  refine af Z <| ad <| ba <| aa <| ab <| af Z <| b5 Z (by (unfold I64;omega)) <| af Z <| ad ?_
  refine bj (i+1,A7,c7) ⟨rfl,rfl,rfl,trivial⟩ (ac 1 [] Z Z) ?_ ?_
  ·show i+1≤L.length
   omega
  ·show L.length - (i+1)<L.length - i
   omega
 ·refine bu <| av <| ax <| au <| aa <| bd4 <| bgi Z Z <| bd3 <| aj ?_
  obtain rfl:i=L.length:=by omega
  rw [List.take_length] at *
  refine ai Z (.tmp Z .nil) (Ent.refl _) ?_
  exact ⟨A1,c1,rfl,rfl⟩
end

theorem a0t {id:List Int} {L:List RB} (h:isM id L=true):∃ h1:atM id L<L.length,L[atM id L].id=id:=by
 unfold isM at h
 split at h
 ·rename_i e he
  obtain ⟨h1,h2⟩:=List.getElem?_eq_some_iff.1 he
  exact ⟨h1,by rw [h2];simpa using h⟩
 ·cases h
theorem arl {L:List RB} (hs:∀ e∈L,e.v.oneCell'=true) {u:Value} (h:u∈xo L):u.oneCell'=true:=by
 induction L with
 | nil => simp [xo] at h
 | cons e L ih =>
  simp only [xo,List.mem_append,List.mem_singleton] at h
  rcases h with (h | h) | h
  ·exact dt _ u h
  ·subst h;exact hs e (by simp)
  ·exact ih (fun x hx=>hs x (by simp [hx])) h
section
variable {b:World} {F:List SP} {gr:Nat} {w r:Int} {A:Option Addr} {c n:Nat} {L:List RB} {id:List Int}
end

def bAt (id:List Int) (L:List RB):List Int:=match L[atM id L]? with | some e=>e.b | none=> []
def ad2 (id xs:List Int) (w r:Int) (L:List RB):Int:=if 4096<xs.length then 4 else if ot (nx xs) w=id then (if isM id L then (if bAt id L=xs then 0 else 9) else if r<xx L+xs.length then 10 else 0) else 8
def s8 (id xs:List Int) (w r:Int) (L:List RB):Bool:=decide (ad2 id xs w r L=0) && !isM id L
abbrev ak1 (i:Nat) (e:RB) (L:List RB):List RB:=L.take i++e::L.drop i
section
variable {b:World} {F:List SP} {gr:Nat} {w r:Int} {A:Option Addr} {c n:Nat} {L:List RB} {id xs:List Int} {vb:Value}
set_option maxHeartbeats 4000000 in
theorem a0u (hb:∀ w,Sat b F w→VL (Value.int .u8) w vb xs) (hlen:xs.length≤1000000) (hx:ii xs) (hid:id.length=32) (h32:aii L) (hone:∀ e∈L,e.v.oneCell'=true) (hbw:∀ e∈L,ii e.b) (hn:n=L.length) (hm:n≤100000) (hs:xx L≤67108864) :
  SC Tryz.prog jq [.pointer (some ⟨gr,0,none⟩),idV id,vb] b (stR gr w r A c n L F)
   (fun v F'=>v = .tuple ⟨[.bool (s8 id xs w r L),.int .i64 (ad2 id xs w r L)]⟩ ∧
    if s8 id xs w r L then ∃ A' c' v1,v1.oneCell'=true∧F'=stR gr w r A' c' (L.length+1) (ak1 (atM id L) ⟨id,xs,v1⟩ L) F else F'=stR gr w r A c n L F):=by
 subst hn
 have hcl:=uo (nx xs) w (zf xs)
 have hOf:∀ {b:World} {F:List SP},(∀ w,Sat b F w→VL (Value.int .u8) w vb xs)→SC Tryz.prog xb [vb,.int .i64 w] b F (fun v F'=>v = .tuple ⟨[idV (ot (nx xs) w),.int .i64 (ad0 w)]⟩∧F'=F):=fun h=>by
  have:=a2p (w:=w) hlen h
  rwa [a6w] at this
 have hle:=aov id L
 have hsn:=aow L
 refine bf Tryz.func105 Z Z Z <| bt (fun w H=>(H.oat (k:=1) Z).form) ?_
 rintro ⟨A',c',hv,k1,k2,k3⟩
 cases hv
 refine bt (fun w H=>(hb w (H.ent (ac 3 [] Z Z))).form) ?_
 rintro ⟨bA,bc,rfl,f1,f2,f3,f4⟩
 refine bd4 <| cq Z Z Z Z Z fun g4=>bgi Z Z <| a8r <| bgj Z Z Z <| af Z <| df 1 Z Z Z <| bh Z Z Z (hOf (up hb (ac 4 [] Z Z))) ?_
 generalize hdd:ot (nx xs) w=own at *
 refine bgj Z Z Z <| ek Z Z Z Z Z fun g8=> ?_
 refine im 0 Z Z Z Z Z Z Z (by rw [bg,hcl];rfl) (dt _) (by simp [hcl]) ?_
 refine af Z <| a8r <| af Z <| dk 1 Z Z Z Z Z Z (ig hid) Z <| bh Z Z Z ((bgf (F:=pt g8 t_api_ID (u8s own)::pt g4 t_api_ID (u8s id)::F) hid h32 Z hm).at (ac 5 [2,3,4,0,1] Z Z) (ac 5 [3,4,0,1,2] Z Z)) ?_
 (iterate 5 refine af Z ?_)
 refine bd3 <| ae <| ar <| bd4 <| bgj Z Z Z <| af Z <| bd3 ?_
 by_cases h1:4096<xs.length
 ·have e0:ad2 id xs w r L=4:=by rw [ad2,if_pos h1]
  have e1:s8 id xs w r L=false:=by rw [s8,e0];rfl
  refine di Z (fun h=>(bd4 <| bgi Z Z <| bd3 <| aj <| ap <| ag <| ai Z (.tmp Z (.tmp Z .nil)) (ac 2 [] Z Z) ?_)) (fun h=>absurd (by omega) h)
  rw [e0,e1]
  exact ⟨rfl,rfl⟩
 refine di Z (fun h=>absurd h (by omega)) (fun h=>bd4 <| dk 0 Z Z Z Z Z Z (ig hcl) Z <| dk 1 Z Z Z Z Z Z (ig hid) Z <| uc Z (anl (as00:=own) (bs:=id) Z Z hcl hid) Z <| af Z <| bd3 ?_)
 by_cases h2:own=id
 rotate_left
 ·have e0:ad2 id xs w r L=8:=by rw [ad2,if_neg h1,if_neg (by rw [hdd];exact h2)]
  have e1:s8 id xs w r L=false:=by rw [s8,e0];rfl
  refine cm 32 (.bool true) Z (by simp [h2]) ?_
  refine aq Z <| bd4 <| bgi Z Z <| bd3 <| aj <| ap <| ag <| ai Z (.tmp Z (.tmp Z .nil)) (ac 2 [] Z Z) ?_
  rw [e0,e1]
  exact ⟨rfl,rfl⟩
 refine cm 32 (.bool false) Z (by simp [h2]) ?_
 cases hM:isM id L with
 | true =>
  obtain ⟨h3,h4⟩:=a0t hM
  have hbA:bAt id L=L[atM id L].b:=by simp only [bAt,List.getElem?_eq_getElem h3]
  have hc0:=a0p h32 h3
  have hbb:=hbw _ (List.getElem_mem h3)
  have hvl:=fun (b:World) (F:List SP) (k:Nat) (hk:nth F k=some (all (zp L)))=>a0r (b:=b) hk h3
  have eF:s8 id xs w r L=false:=by rw [s8,hM];simp
  have eE:ad2 id xs w r L=if L[atM id L].b=xs then 0 else 9:=by rw [ad2,if_neg h1,if_pos (by rw [hdd];exact h2),if_pos hM,hbA]
  rw [eF,eE]
  generalize atM id L=i at *
  generalize L[i].b=ys at *
  generalize L[i].v=vv at *
  obtain ⟨gL,oL,rfl⟩:=k3 (by omega)
  refine al Z <| ae <| b7 flo (pt g8 t_api_ID (u8s own)::pt g4 t_api_ID (u8s id)::stR gr w r (some ⟨gL,oL,none⟩) c L.length L F) (by decide +kernel) (Ent.refl _) ?_
  (iterate 5 refine ay Z Zl ?_)
  refine de 2 Z Z Z Z <| ay Z Zl <| dj Z Z (by omega) <| ay Z Zl ?_
  have hc:=nq (b:=b) (F:=pt g8 t_api_ID (u8s own)::pt g4 t_api_ID (u8s id)::stR gr w r (some ⟨gL,oL,none⟩) c L.length L F) (k:=3) Z hc0
  refine fu Z (fun w H=>bm Z Z Z (by rw [bi,Int.toNat_natCast,Nat.add_assoc];exact hc w H)) Z Z ?_
  refine ajc Z Z Z Z Z Z Z Z (hvl _ _ 4 Z) <| ay Z Zl <| ajc Z Z Z Z Z Z Z Z (up hb (ac 5 [] Z Z)) <| ay Z Zl <| ay Z Zl <| ay Z Zl ?_
  by_cases hyx:ys=xs
  ·refine b4 36 (.bool false) Z (by simp [hyx]) ?_
   refine az <| aa <| al Z <| bd4 <| bgi Z Z <| bd3 <| aq Z <| bd4 <| bgi Z Z <| bd3 <| aj <| ap <| ag <| ai Z (.tmp Z (.tmp Z .nil)) (ac 2 [] Z Z) ?_
   rw [if_pos hyx]
   exact ⟨rfl,rfl⟩
  ·have hyd:¬ (strOfNums ys).data=(strOfNums xs).data:=fun e=>hyx (amh hbb hx e)
   refine b4 36 (.bool true) Z (by simp [hyd]) ?_
   refine az <| aa <| aq Z <| bd4 <| bgi Z Z <| bd3 <| aj <| ap <| ag <| ai Z (.tmp Z (.tmp Z .nil)) (ac 2 [] Z Z) ?_
   rw [if_neg hyx]
   exact ⟨rfl,rfl⟩
 | false =>
  refine al Z <| ae <| b7 flo (pt g8 t_api_ID (u8s own)::pt g4 t_api_ID (u8s id)::stR gr w r A c L.length L F) (by decide +kernel) (Ent.refl _) ?_
  (iterate 16 refine ay Z Zl ?_)
  refine az <| aa <| al Z <| bd4 <| bgi Z Z <| bd3 <| al Z <| ae <| b7 flo (pt g8 t_api_ID (u8s own)::pt g4 t_api_ID (u8s id)::stR gr w r A c L.length L F) (by decide +kernel) (Ent.refl _) <| ay Z Zl <| cz Z Z Z Z ((axf (F:=pt g8 t_api_ID (u8s own)::pt g4 t_api_ID (u8s id)::F) h32 Z hm hs).at (ac 5 [2,3,4,0,1] Z Z) (ac 5 [3,4,0,1,2] Z Z)) (Ent.refl _) <| ay Z Zl <| ay Z Zl <| dj Z Z (by (unfold I64;omega)) <| ay Z Zl <| ay Z Zl <| ay Z Zl <| de 2 Z Z Z Z <| ay Z Zl <| ay Z Zl <| az ?_
  by_cases h5:r<xx L+xs.length
  ·have eE:ad2 id xs w r L=10:=by rw [ad2,if_neg h1,if_pos (by rw [hdd];exact h2),if_neg (by rw [hM];simp),if_pos h5]
   have eF:s8 id xs w r L=false:=by rw [s8,eE];rfl
   refine aa <| di Z (fun h=>(bd4 <| bgi Z Z <| bd3 <| aj <| ap <| ag <| ai Z (.tmp Z (.tmp Z .nil)) (ac 2 [] Z Z) ?_)) (fun h=>absurd h5 h)
   rw [eE,eF]
   exact ⟨rfl,rfl⟩
  have eE:ad2 id xs w r L=0:=by rw [ad2,if_neg h1,if_pos (by rw [hdd];exact h2),if_neg (by rw [hM];simp),if_neg h5]
  have eF:s8 id xs w r L=true:=by rw [s8,eE,hM];rfl
  refine aa <| di Z (fun h=>absurd h h5) (fun h=>ao <| ba <| aa <| ae <| apx (fl:=flo) 5 12 (pt g4 t_api_ID (u8s id)::F) (by decide +kernel) Z Z Z Z (ac 5 [1] Z Z) <| a6e 0 Z Z Z Z Z Z Z Z Z (ig hid) Z Z <| a2j Z Z Z Z Z Z Z Z Z (ac 5 [1] Z Z) fun g66=>a8t Z Z Z Z Zl ?_)
  refine a6f (iz (n:=0) (sz:=1) Z (by rfl) (by omega) 0 Z Z) ?_
  refine awa 0 Z Z Z Z Z Z Z Z Z Z Z Z Z (up hb (ac 6 [] Z Z)) (dt _) (by omega) (fun _=>rfl) (fun _=>ac 6 [2] Z Z) fun v68=>a2k (fun w H=>(H.oat (k:=0) Z).form) ?_
  rintro ⟨A6,c6,rfl,_,_,_⟩
  refine bd8 Z Z Z Z Z Z Z ⟨(by show (u8s id).length=32;rw [bg,hid]),rfl,trivial⟩ ?_
  refine a4m <| aup Z (by decide +kernel) Z fun g12=>⟨ac 7 [3] Z rfl,?_⟩
  have hl33:(u8s id ++ [Value.slice A6 (0+xs.length) c6]).length=33:=by rw [List.length_append,bg,hid];rfl
  refine qr (vs:=u8s id ++ [Value.slice A6 (0+xs.length) c6]) 0 Z Z Z Z Z Z Z Z hl33 (fun u hu=> ?_) hl33 (ac 7 [3] Z Z) ?_
  ·rcases List.mem_append.1 hu with hu | hu
   ·exact dt _ u hu
   ·simp at hu;subst hu;rfl
  refine az ?_
  rw [Nat.zero_add] at hl33 ⊢
  refine aa <| ae ?_
  have ht:=axd h32 (atM id L) hle
  have hd:=ahg h32 (atM id L) hle
  have hperm:(zp (ak1 (atM id L) ⟨id,xs,.slice A6 xs.length c6⟩ L)).Perm ([rE (.slice A6 xs.length c6) xs]++zp L):=by
   have e:zp L=zp (L.take (atM id L))++zp (L.drop (atM id L)):=by rw [← agb,List.take_append_drop]
   rw [ak1,agb,e,zp]
   exact List.perm_middle
  have hcat:∀ j:List RB,j=L.drop (atM id L)→xo (L.take (atM id L))++((u8s id ++ [Value.slice A6 xs.length c6])++xo j)=xo (ak1 (atM id L) ⟨id,xs,.slice A6 xs.length c6⟩ L):=fun j hj=>by subst hj;rw [ak1,ak0];rfl
  generalize atM id L=i at *
  refine kt flo 19 (pt g12 pb (u8s id ++ [Value.slice A6 xs.length c6])::pt gr j5 [.int .i64 w,.int .i64 r,.slice A L.length c]::F) [] Z (by decide +kernel) (ac 7 [0,4] Z Z) <| ay Z Zl <| ay Z Zl <| ay Z Zl <| ay Z Zl <| de 1 Z Z Z Z <| ay Z Zl <| dj Z Z (by omega) <| jm 0 Z Z Z Z Z Z (fd hl33.symm) Z Z <| n9 Z Z Z Z Z Z Z Z hl33 (by decide) (ac 7 [0,4] Z Z) fun g78=>ay Z Zl <| ay Z Zl <| ay Z Zl <| de 1 Z Z Z Z <| ay Z Zl <| dj Z Z (by omega) ?_
  have hi1:((i:Int)).toNat=i:=by omega
  refine b4 76 (.slice A i c) Z Z ?_
  refine b4 84 (.slice (if c=i then A else A.map (·.add (i*33))) (L.length - i) (c - i)) Z (by rw [hi1]) ?_
  refine agp (iz (n:=1) (sz:=33) Z hl33 (by omega) 0 Z Z) <| nz 0 Z Z Z Z Z Z Z Z Z Z (abp (k:=6) Z hle) (fun u hu=>arl hone (List.mem_of_mem_drop hu)) (by omega) (fun _=>rfl) (fun _=>ac 8 [1,5] Z Z) fun v85=> ?_
  refine ajm 6 Z Z Z Z Z Z Z Z Z Z hle (fun w H=>(H.oat (k:=0) Z).sl) (fun u hu=> ?_) (by omega) (fun _=>rfl) (fun _=>ac 8 [1,5] Z Z) fun v86=> ?_
  ·rcases List.mem_append.1 hu with hu | hu
   ·rcases List.mem_append.1 hu with hu | hu
    ·exact dt _ u hu
    ·simp at hu;subst hu;rfl
   ·exact arl hone (List.mem_of_mem_drop hu)
  rw [ht,hd,hcat _ rfl]
  refine ie (fun w H=>(H.oat (k:=6) Z).form) ?_
  rintro ⟨A7,c7,rfl,_,_,_⟩
  refine ay Z Zl <| ay Z Zl <| az <| ku Z (dw _) <| ug 5 Z Z Z Z Z Z Z Z Z Z Z (dw _) <| az <| aa <| bd4 <| bgi Z Z <| bd3 <| aj ?_
  have e1:i+(1+(L.length - i))=L.length+1:=by omega
  rw [e1]
  refine ai Z (.tmp Z (.tmp Z .nil)) ((((ac 8 [2,7,5,6] Z Z:Ent _ (row 5 1 (.slice A6 xs.length c6) xs.length ([]++u8s xs)::all (zp L)::pt gr j5 [.int .i64 w,.int .i64 r,.slice A7 (L.length+1) c7]::rR A7 c7 (L.length+1) (ak1 i ⟨id,xs,.slice A6 xs.length c6⟩ L)::F)).trans (pk 0 Z (B:=rE (.slice A6 xs.length c6) xs) (fun h hA=> .inr hA) Z)).trans (ql (B:= [rE (.slice A6 xs.length c6) xs]) hperm)).trans (ac 3 [1,2,0] Z Z)) ?_
  rw [eE,eF,if_pos rfl]
  exact ⟨rfl,A7,c7,.slice A6 xs.length c6,rfl,rfl⟩
end

structure xp (w r u:Int) (l:List Kp) (L:List RB):Prop where
 st:StI w r u l
 pm:(L.map fun e=>(e.id,e.b)).Perm (l.map fun e=>(e.id,e.b))
 so:(L.map (·.id)).Pairwise leM
 one:∀ e∈L,e.v.oneCell'=true
theorem aox {x y:List Int} (hx:ii x) (hy:ii y):jd x y=zh x y:=as4 hx hy
theorem arm {x y:List Int} (hx:ii x) (hy:ii y) (h1:leM x y) (h2:leM y x):x=y:=aou hx hy (aiv _ _ h2 h1)
section
variable {w r u:Int} {l:List Kp} {L:List RB} (h:xp w r u l L)
include h
theorem xp.ids:(L.map (·.id)).Perm (l.map (·.id)):=by
 have:=h.pm.map (·.1)
 rw [List.map_map,List.map_map] at this;exact this
theorem xp.mem {e:RB} (he:e∈L):∃ x∈l,x.id=e.id∧x.b=e.b:=by
 have:(e.id,e.b)∈l.map fun e=>(e.id,e.b):=h.pm.subset (List.mem_map.2 ⟨e,he,rfl⟩)
 obtain ⟨x,hx,hxe⟩:=List.mem_map.1 this
 simp only [Prod.mk.injEq] at hxe
 exact ⟨x,hx,hxe.1,hxe.2⟩
theorem xp.ok {e:RB} (he:e∈L):idOk e.id∧ii e.b∧e.b.length≤4100:=by
 obtain ⟨x,hx,h1,h2⟩:=h.mem he
 exact ⟨by rw [← h1,h.st.ids x hx];exact akz _ _,by rw [← h2];exact h.st.bw x hx,by rw [← h2];exact h.st.ln x hx⟩
theorem xp.i32:aii L:=fun e he=>(h.ok he).1.1
theorem xp.len:L.length=l.length:=by have:=h.pm.length_eq;simpa using this
theorem xp.sum:xx L=u:=by
 rw [h.st.us,xx,r7]
 have:=a0o (h.pm.map fun p=>(p.2.length:Int))
 rw [List.map_map,List.map_map] at this;exact this
theorem xp.find {id:List Int} (hid:idOk id):(isM id L=true→∃ e,kw id l=some e∧∃ h1:atM id L<L.length,e.b=L[atM id L].b)∧(isM id L=false→kw id l=none):=by
 refine ⟨fun hM=> ?_,fun hM=> ?_⟩
 ·obtain ⟨h1,h2⟩:=a0t hM
  obtain ⟨x,hx,h3,h4⟩:=h.mem (List.getElem_mem h1)
  exact ⟨x,by rw [← h2,← h3];exact a0n h.st.nd hx,h1,h4⟩
 ·cases hf:kw id l with
  | none => rfl
  | some e =>
   exfalso
   obtain ⟨he,hei⟩:=ahf hf
   have hm:(e.id,e.b)∈L.map fun e=>(e.id,e.b):=h.pm.symm.subset (List.mem_map.2 ⟨e,he,rfl⟩)
   obtain ⟨x,hx,hxe⟩:=List.mem_map.1 hm
   simp only [Prod.mk.injEq] at hxe
   obtain ⟨k,hk,rfl⟩:=List.mem_iff_getElem.1 hx
   have hkid:L[k].id=id:=hxe.1.trans hei
   have hkk:¬ k<atM id L:=fun hlt=>by
    have hc:=(zq (id:=id) hk (by omega)).1 hlt
    rw [hkid,ag3] at hc;omega
   have hal:atM id L<L.length:=by omega
   have hna:¬ zh L[atM id L].id id<0:=fun hc=>by have:=(zq (id:=id) hal (Nat.le_refl _)).2 hc;omega
   have hb1:=il (h.ok (List.getElem_mem hal)).1
   have hb2:=il hid
   have hle1:leM id L[atM id L].id:=by unfold leM;rw [aox hb1 hb2];exact hna
   have hle2:leM L[atM id L].id id:=by
    by_cases e:atM id L=k
    ·have:L[atM id L].id=id:=by simp only [e];exact hkid
     rw [this];exact fun hc=>zo _ _ hc hc
    ·have:=List.pairwise_iff_getElem.1 h.so (atM id L) k (by simpa using hal) (by simpa using hk) (by omega)
     simp only [List.getElem_map] at this
     rw [hkid] at this;exact this
   have heq:=arm hb1 hb2 hle2 hle1
   unfold isM at hM
   rw [List.getElem?_eq_getElem hal] at hM
   simp [heq] at hM
theorem xp.put {id xs:List Int} {g:Nat} {v1 v2:Value} (hid:id=dg xs w) (hf:kw id l=none) (hx:ii xs) (hlen:xs.length≤4100) (hr:u+xs.length≤r) (hv:v2.oneCell'=true):xp w r (u+xs.length) (l ++ [⟨id,xs,g,v1⟩]) (ak1 (atM id L) ⟨id,xs,v2⟩ L):=by
 subst hid
 have hle:=aov (dg xs w) L
 have hids:=il (akz xs w)
 have hsplit:L=L.take (atM (dg xs w) L)++L.drop (atM (dg xs w) L):=(List.take_append_drop _ _).symm
 refine ⟨h.st.put hf hx hlen hr,?_,?_,fun x hx'=> ?_⟩
 ·simp only [ak1,List.map_append,List.map_cons,List.map_nil]
  refine List.perm_middle.trans ?_
  rw [← List.map_append,List.take_append_drop]
  exact (List.Perm.cons _ h.pm).trans (List.perm_append_singleton _ _).symm
 ·simp only [ak1,List.map_append,List.map_cons]
  have hso:=h.so
  have hb:∀ k (hk:k<L.length),ii L[k].id:=fun k hk=>il (h.ok (List.getElem_mem hk)).1
  have hlow:∀ a∈(L.take (atM (dg xs w) L)).map (·.id),leM a (dg xs w):=fun a ha=>by
   obtain ⟨e,he,rfl⟩:=List.mem_map.1 ha
   obtain ⟨k,hk,rfl⟩:=List.mem_iff_getElem.1 he
   have hk':k<atM (dg xs w) L:=by rw [List.length_take] at hk;omega
   have hkL:k<L.length:=by omega
   rw [List.getElem_take]
   have hc:=(zq (id:=dg xs w) hkL (by omega)).1 hk'
   rw [← aox (hb k hkL) hids] at hc
   exact ae2 hc
  have hhigh:∀ a∈(L.drop (atM (dg xs w) L)).map (·.id),leM (dg xs w) a:=fun a ha=>by
   obtain ⟨e,he,rfl⟩:=List.mem_map.1 ha
   obtain ⟨k,hk,rfl⟩:=List.mem_iff_getElem.1 he
   have hkL:atM (dg xs w) L+k<L.length:=by rw [List.length_drop] at hk;omega
   have haL:atM (dg xs w) L<L.length:=by omega
   rw [List.getElem_drop]
   have hna:¬ zh L[atM (dg xs w) L].id (dg xs w)<0:=fun hc=>by have:=(zq (id:=dg xs w) haL (Nat.le_refl _)).2 hc;omega
   have h1:leM (dg xs w) L[atM (dg xs w) L].id:=by unfold leM;rw [aox (hb _ haL) hids];exact hna
   rcases Nat.eq_zero_or_pos k with rfl | hk0
   ·simpa using h1
   ·have:=List.pairwise_iff_getElem.1 hso (atM (dg xs w) L) (atM (dg xs w) L+k) (by simpa using haL) (by simpa using hkL) (by omega)
    simp only [List.getElem_map] at this
    exact q7 h1 this
  have hmid:∀ a∈(L.take (atM (dg xs w) L)).map (·.id),∀ c∈(L.drop (atM (dg xs w) L)).map (·.id),leM a c:=fun a ha c hc=>q7 (hlow a ha) (hhigh c hc)
  rw [hsplit,List.map_append] at hso
  obtain ⟨p1,p2,_⟩:=List.pairwise_append.1 hso
  refine List.pairwise_append.2 ⟨?_,List.pairwise_cons.2 ⟨?_,?_⟩,?_⟩
  ·exact p1
  ·exact hhigh
  ·exact p2
  ·intro a ha c hc
   rcases List.mem_cons.1 hc with rfl | hc
   ·exact hlow a ha
   ·exact hmid a ha c hc
 ·rcases List.mem_append.1 hx' with hx' | hx'
  ·exact h.one x (List.mem_of_mem_take hx')
  ·rcases List.mem_cons.1 hx' with rfl | hx'
   ·exact hv
   ·exact h.one x (List.mem_of_mem_drop hx')
end
theorem xp.nil (w:Int) {r:Int} (hr:0≤r):xp w r 0 [] []:=⟨StI.nil w hr,.refl _,.nil,by simp⟩

section
variable {b:World} {F:List SP}
variable {gs gm gr:Nat} {w r u:Int} {l:List Kp} {L:List RB} {A:Option Addr} {c:Nat} {id:List Int}
end

structure AM where
 kind:Int
 id:List Int
 v:Value
 b:List Int
section
variable {b:World} {F:List SP} {v:Value} {acts:List AM}
end

section
variable {b:World} {F:List SP} {gs gm gr:Nat} {w r u:Int} {l:List Kp} {L:List RB} {A:Option Addr} {c:Nat} {id xs:List Int} {vb:Value}
theorem axg (h:xp w r u l L) (hr:r≤67108864) (hid:idOk id) (hb:∀ w,Sat b F w→VL (Value.int .u8) w vb xs) (hx:ii xs) (hlen:xs.length≤4100) (hm:L.length≤100000):SC Tryz.prog jq [.pointer (some ⟨gr,0,none⟩),idV id,vb] b (stR gr w r A c L.length L F)
  (fun v F'=>v = .tuple ⟨[.bool (s8 id xs w r L),.int .i64 (ad2 id xs w r L)]⟩∧∃ A' c' L',F'=stR gr w r A' c' L'.length L' F∧(s8 id xs w r L=false→L'=L)∧(s8 id xs w r L=true→∃ v2:Value,v2.oneCell'=true∧L'=ak1 (atM id L) ⟨id,xs,v2⟩ L)):=by
 have hs:=h.sum
 have hur:=h.st.ur
 refine (a0u hb (by omega) hx hid.1 h.i32 h.one (fun e he=>(h.ok he).2.1) Z hm (by omega)).mono fun v F' ⟨h1,h2⟩=>⟨h1,?_⟩
 cases hI:s8 id xs w r L with
 | false => rw [hI] at h2; exact ⟨A, c, L, h2, fun _ => rfl, fun hc => by cases hc⟩
 | true =>
  rw [hI] at h2
  obtain ⟨A',c',v1,h3,h4⟩:=h2
  have hle:=aov id L
  refine ⟨A',c',_,?_,fun hc=>(by cases hc),fun _=>⟨v1,h3,rfl⟩⟩
  rw [h4]
  congr 2
  all_goals simp [ak1];try omega
end
end Go.Proofs.YtdmfcnjgdicncaaGreat
