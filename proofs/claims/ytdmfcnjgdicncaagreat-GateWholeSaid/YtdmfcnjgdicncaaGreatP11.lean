/- Blobs, part eleven: the heap: down, Push, Pop. Conditions: not too many. -/
import Derived.Test.YtdmfcnjgdicncaaGreatP0
import Derived.Test.YtdmfcnjgdicncaaGreatP3
namespace Go.Proofs.YtdmfcnjgdicncaaGreat
open Go.Eng Go.RowKit Go.WideMaps

section
variable {b : World} {F : List SP} {A : Option Addr} {c n gh : Nat} {l : List (List Int)}
end

section
variable {b : World} {F : List SP} {A : Option Addr} {c n gh : Nat} {l : List (List Int)} {x : List Int}
end

theorem cb_asymm : ∀ x y : List UInt8, Lib.compareBytes x y < 0 → ¬ Lib.compareBytes y x < 0
 | [], [] => by simp [Lib.compareBytes]
 | [], _ :: _ => by simp [Lib.compareBytes]
 | _ :: _, [] => by simp [Lib.compareBytes]
 | a :: x, b :: y => by
  have ih := cb_asymm x y
  simp only [Lib.compareBytes, UInt8.lt_iff_toNat_lt]
  repeat' split
  all_goals first | omega | exact ih
theorem cb_trans : ∀ x y z : List UInt8, ¬ Lib.compareBytes y x < 0 → ¬ Lib.compareBytes z y < 0 → ¬ Lib.compareBytes z x < 0
 | [], _, [] => by simp [Lib.compareBytes]
 | [], _, _ :: _ => by simp [Lib.compareBytes]
 | _ :: _, [], [] => by simp [Lib.compareBytes]
 | _ :: _, _ :: _, [] => by simp [Lib.compareBytes]
 | _ :: _, [], _ :: _ => by simp [Lib.compareBytes]
 | a :: x, b :: y, c :: z => by
  have ih := cb_trans x y z
  simp only [Lib.compareBytes, UInt8.lt_iff_toNat_lt]
  repeat' split
  all_goals first | omega | exact ih
def leM (x y : List Int) : Prop := ¬ cmpM y x < 0
theorem leM_of {x y : List Int} (h : cmpM x y < 0) : leM x y := cb_asymm _ _ h
theorem leM_trans {x y z : List Int} (h1 : leM x y) (h2 : leM y z) : leM x z := cb_trans _ _ _ h1 h2
abbrev at' (l : List (List Int)) (i : Nat) : List Int := l.getD i []

section
variable {b : World} {F : List SP}
variable {w r u : Int} {gs gm : Nat} {l : List Kp}
end

section
variable {b : World} {F : List SP} {p : Value} {id : List Int} (hn : ∀ A : List SP, SC Tryz.prog n_p_blob_Store_none [p] b (A ++ F) (fun v F' => v = .bool true ∧ F' = A ++ F))
include hn
end
section
variable {b : World} {F : List SP} {q A0 : Option Addr} {n0 c0 : Nat} {id : List Int} (hn : ∀ A : List SP, SC Tryz.prog n_p_blob_Store_none [.pointer q] b (A ++ F) (fun v F' => v = .bool true ∧ F' = A ++ F))
include hn
end
set_option maxRecDepth 100000

section
variable {b : World} {F : List SP} {gs gm : Nat} {w r u u' : Int} {l : List Kp} {s : ByteArray} {is : Bool} {e : Int} {Pl : List Kp → Prop}
end
theorem strI_bw (s : ByteArray) : byteW (strI s) := by
 intro c hc
 obtain ⟨x, _, rfl⟩ := List.mem_map.1 hc
 have := x.toNat_lt
 omega
theorem idOk_cut (xs : List Int) (w : Int) : idOk (cutR (sumM xs) w) := idOk_of (cutR_len _ _ (sumM_len _)) (cutR_byte (sumM_byte _) w)
section
variable {b : World} {F : List SP}
end


section
variable {b : World} {F : List SP}
end

section
variable {b : World} {F : List SP} {v : Value} {xss : List (List Int)} {n m : Int}
end

section
variable {b : World} {F : List SP} {va vb : Value} {xs ys : List Int} {id : List Int}
end


theorem cb_zero : ∀ x y : List UInt8, ¬ Lib.compareBytes x y < 0 → ¬ Lib.compareBytes y x < 0 → x = y
 | [], [] => by simp
 | [], _ :: _ => by simp [Lib.compareBytes]
 | _ :: _, [] => by simp [Lib.compareBytes]
 | a :: x, b :: y => by
  have ih := cb_zero x y
  simp only [Lib.compareBytes, UInt8.lt_iff_toNat_lt]
  intro h1 h2
  by_cases h3 : a.toNat < b.toNat
  ·rw [if_pos h3] at h1; omega
  ·by_cases h4 : b.toNat < a.toNat
   ·rw [if_pos h4] at h2; omega
   ·rw [if_neg h3, if_neg h4] at h1
    rw [if_neg h4, if_neg h3] at h2
    have e : a = b := UInt8.toNat_inj.1 (by omega)
    rw [e, ih h1 h2]
theorem u8l_inj {x y : List Int} (hx : byteW x) (hy : byteW y) (h : u8l x = u8l y) : x = y := by
 induction x generalizing y with
 | nil => cases y with
  | nil => rfl
  | cons b y => simp [u8l] at h
 | cons a x ih => cases y with
  | nil => simp [u8l] at h
  | cons b y =>
   simp only [u8l, List.map_cons, List.cons.injEq] at h
   have h1 := hx a (by simp); have h2 := hy b (by simp)
   have h3 := congrArg UInt8.toNat h.1
   simp only [UInt8.toNat_ofNat'] at h3
   rw [ih (fun c hc => hx c (by simp [hc])) (fun c hc => hy c (by simp [hc])) h.2]
   congr 1; omega
theorem lt_of_le_ne {x y : List Int} (hx : byteW x) (hy : byteW y) (h : leM x y) (hne : x ≠ y) : cmpM x y < 0 :=
 Classical.byContradiction fun h2 => hne (u8l_inj hx hy (cb_zero _ _ h2 h))
theorem idOk_byte {a : List Int} (h : idOk a) : byteW a := fun x hx => (u8wf x).1 (h.2 x hx)

abbrev dg (xs : List Int) (w : Int) : List Int := cutR (sumM xs) w
def lenSum (l : List Kp) : Int := (l.map fun e => (e.b.length : Int)).sum
structure StI (w r u : Int) (l : List Kp) : Prop where
 nd : (l.map (·.id)).Nodup
 ids : ∀ e ∈ l, e.id = dg e.b w
 bw : ∀ e ∈ l, byteW e.b
 ln : ∀ e ∈ l, e.b.length ≤ 4100
 us : u = lenSum l
 ur : u ≤ r
theorem StI.nil (w : Int) {r : Int} (h : 0 ≤ r) : StI w r 0 [] := ⟨by simp, by simp, by simp, by simp, rfl, h⟩
theorem findK_mem {a : List Int} {l : List Kp} {e : Kp} (h : findK a l = some e) : e ∈ l ∧ e.id = a := by
 obtain ⟨l1, l2, rfl, h2, _⟩ := kF_perm h
 exact ⟨by simp, h2⟩
theorem findK_none {a : List Int} {l : List Kp} (h : findK a l = none) : ∀ e ∈ l, e.id ≠ a := by
 induction l with
 | nil => simp
 | cons x l ih =>
  simp only [findK] at h
  split at h
  ·cases h
  ·rename_i hx
   intro e he
   rcases List.mem_cons.1 he with rfl | he
   ·exact hx
   ·exact ih h e he
theorem lenSum_app (l1 l2 : List Kp) : lenSum (l1 ++ l2) = lenSum l1 + lenSum l2 := by simp [lenSum]
theorem lenSum_nn (l : List Kp) : 0 ≤ lenSum l := by
 induction l with
 | nil => exact Int.le_refl _
 | cons x l ih =>
  have : lenSum (x :: l) = (x.b.length : Int) + lenSum l := by simp [lenSum]
  omega
theorem StI.put {w r u : Int} {l : List Kp} (h : StI w r u l) {xs : List Int} {g : Nat} {v1 : Value} (hn : findK (dg xs w) l = none) (hx : byteW xs) (hlen : xs.length ≤ 4100) (hr : u + xs.length ≤ r) : StI w r (u + xs.length) (l ++ [⟨dg xs w, xs, g, v1⟩]) := by
 have hm : ∀ e ∈ l ++ [(⟨dg xs w, xs, g, v1⟩ : Kp)], e ∈ l ∨ e = ⟨dg xs w, xs, g, v1⟩ := fun e he => by simpa using he
 refine ⟨?_, fun e he => ?_, fun e he => ?_, fun e he => ?_, ?_, hr⟩
 ·simp only [List.map_append, List.map_cons, List.map_nil]
  refine List.nodup_append.2 ⟨h.nd, by simp, fun a ha z hz => ?_⟩
  obtain ⟨e, he, rfl⟩ := List.mem_map.1 ha
  obtain rfl : z = dg xs w := by simpa using hz
  exact findK_none hn e he
 ·rcases hm e he with he | rfl
  ·exact h.ids e he
  ·rfl
 ·rcases hm e he with he | rfl
  ·exact h.bw e he
  ·exact hx
 ·rcases hm e he with he | rfl
  ·exact h.ln e he
  ·exact hlen
 ·rw [lenSum_app, ← h.us]; simp [lenSum]

section
variable {b : World} {F : List SP} {gs gm : Nat} {w r u : Int} {l : List Kp}
end

section
variable {b : World} {F : List SP} {gs gm : Nat} {w r u : Int} {l : List Kp}
end

end Go.Proofs.YtdmfcnjgdicncaaGreat
