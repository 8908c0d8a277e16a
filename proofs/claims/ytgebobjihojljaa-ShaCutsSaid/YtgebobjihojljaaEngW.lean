/- The engine, part twenty-two: what a row says of an argument that is an array of numbers. Conditions: as part two. -/
import Derived.Test.YtgebobjihojljaaEngV
import Derived.WideKeyArr2
import Derived.ChangeMaps5
namespace Go.Eng
open Go Go.RowKit Go.ChangeShapes Go.WideShapes Go.WideMaps

section
variable {H : Type} {enc : TypeId × Value → H} {P : Program} {W : World} {base b0 : Nat} {spare : Nat → Bool} {held : Bool} {r : Reach}
theorem mapM_ints {e : TypeId} {q : IntKind} (he : P.underlying e = some (.int q)) {m c : Nat} {cs : List Value} : ∀ (L : List Nat) (ys : List (DataW H × List MemPlace)), L.mapM (fun i => DataW.trod enc P W base spare held m e ((cs.drop (i * c)).take c)) = some ys →
    ∀ i ∈ L, ∃ a, (cs.drop (i * c)).take c = [.int q a] ∧ (Lit.int q a).wf = true
  | [], _, _, i, hi => by cases hi
  | j :: L, ys, h, i, hi => by
    rw [List.mapM_cons] at h
    simp only [bind, Option.bind_eq_some_iff, pure, Option.some.injEq] at h
    obtain ⟨y, hy, ys', hys, rfl⟩ := h
    rcases List.mem_cons.1 hi with rfl | hi
    · obtain ⟨a, ea, _, wa⟩ := DataW.trod_int he hy
      exact ⟨a, ea, wa⟩
    · exact mapM_ints he L ys' hys i hi
def intOf : Value → Int
  | .int _ a => a
  | _ => 0
theorem open_arrI {t e : TypeId} {n : Nat} {q : IntKind} (A : ArrKey P t e n) (he : P.underlying e = some (.int q)) {v : Value} {d : DataW H} {ps : List MemPlace} (hval : Value.okWide P W r b0 t v) (hd : DataW.Trod enc P W base spare held t v d ps) :
    ∃ xs : List Int, v = .agg ⟨xs.map (Value.int q)⟩ ∧ xs.length = n ∧ ∀ x ∈ xs, (Lit.int q x).wf = true := by
  obtain ⟨cs, rfl, hn⟩ := okWide_arr A hval
  obtain ⟨fuel, hf⟩ := hd
  cases fuel with
  | zero => simp [DataW.trod] at hf
  | succ m =>
    rw [DataW.trod_step] at hf
    unfold DataW.trodStep at hf
    simp only [A.hu, Value.cells] at hf
    rw [if_pos (by rw [A.size]; simpa using hn)] at hf
    simp only [Option.map_eq_some_iff] at hf
    obtain ⟨ys, hy, _⟩ := hf
    have key := mapM_ints he _ ys hy
    obtain ⟨cl⟩ := cs
    have hn' : cl.length = n := by simpa using hn
    have hat : ∀ i, i < n → ∃ a, cl[i]? = some (.int q a) ∧ (Lit.int q a).wf = true := by
      intro i hi
      obtain ⟨a, h1, h2⟩ := key i (by simpa using hi)
      refine ⟨a, ?_, h2⟩
      rw [A.one, Nat.mul_one] at h1
      have h3 : ((cl.drop i).take 1)[0]? = some (.int q a) := by rw [h1]; rfl
      simpa [List.getElem?_take, List.getElem?_drop] using h3
    refine ⟨cl.map intOf, ?_, by simpa using hn', ?_⟩
    · congr 2
      apply List.ext_getElem?
      intro i
      rw [List.getElem?_map, List.getElem?_map]
      rcases Nat.lt_or_ge i n with hi | hi
      · obtain ⟨a, h1, _⟩ := hat i hi
        rw [h1]; rfl
      · rw [List.getElem?_eq_none (by omega)]; rfl
    · intro x hx
      obtain ⟨u, hu, rfl⟩ := List.mem_map.1 hx
      obtain ⟨i, hi⟩ := List.getElem?_of_mem hu
      have hlt : i < n := by have := (List.getElem?_eq_some_iff.1 hi).1; omega
      obtain ⟨a, h1, h2⟩ := hat i hlt
      rw [hi] at h1
      cases h1
      exact h2
end
end Go.Eng
