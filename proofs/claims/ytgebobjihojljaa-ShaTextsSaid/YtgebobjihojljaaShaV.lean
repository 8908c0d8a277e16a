/- Digests, part twenty-two: the law 'ShaTexts': its walk. Conditions: the arguments read as the row says. -/
import Derived.Test.YtgebobjihojljaaShaU
namespace Go.Proofs.Ytgebobjihojljaa
open Go.Eng Go.RowKit

/-- Where ways come together behind a block. -/
theorem sw_cut {P : Program} {ro : Option Nat} {N i : Nat} {Q : Exit → Act → World → Prop} {E : List (Nat × Value)} {ds : List Deferred} {b : World} {F : List SP} {c y : Code} (Em : List (Nat × Value)) (Fm : List SP) (hy : SW P ro N y Q Em ds b Fm)
    (hc : (∀ E' F', Sub Em E' → Ent F' Fm → SN N (Exit.inBlock i (Then P ro y Q)) .normal E' ds b F') → SW P ro N c (Exit.inBlock i (Then P ro y Q)) E ds b F) : SW P ro N c (Exit.inBlock i (Then P ro y Q)) E ds b F :=
  hc fun _ _ hs he => sn_block (sn_then (sw_sub hs (sw_ent he hy)))

/-! ## Texts are read as they were -/
theorem strI_of {l : List Int} (h : byteW l) : strI (strOfNums l) = l := by
  have : (strOfNums l).data.toList = l.map fun n => UInt8.ofNat n.toNat := by simp [strOfNums]
  rw [strI, this, List.map_map]
  conv => rhs; rw [← List.map_id l]
  apply List.map_congr_left
  intro n hn
  have := h n hn
  simp only [Function.comp, id, UInt8.toNat_ofNat']
  omega
theorem of_strI (s : ByteArray) : strOfNums (strI s) = s := by
  apply ByteArray.ext
  apply Array.ext'
  simp only [strOfNums, strI, List.map_map]
  conv => rhs; rw [← List.map_id s.data.toList]
  apply List.map_congr_left
  intro c _
  simp
theorem hx_range {n : Int} (h : 0 ≤ n ∧ n < 16) : 48 ≤ hx n ∧ hx n ≤ 102 := by unfold hx; split <;> omega
theorem dig_hx {n : Int} (h : 0 ≤ n ∧ n < 16) : dig (hx n) = n := by
  unfold hx dig; split
  · rw [if_pos (by omega)]; omega
  · rw [if_neg (by omega), if_pos (by omega)]; omega
theorem hx_dig {c : Int} (h : 0 ≤ dig c) : hx (dig c) = c := by
  unfold dig at h ⊢
  split at h
  · rename_i h1; rw [if_pos h1, hx, if_pos (by omega)]; omega
  · split at h
    · rename_i h1 h2; rw [if_neg h1, if_pos h2, hx, if_neg (by omega)]; omega
    · omega
theorem textL_byte {l : List Int} (h : byteW l) : byteW (textL l) := by
  intro c hc
  simp only [textL, List.mem_flatMap, List.mem_cons, List.not_mem_nil, or_false] at hc
  obtain ⟨n, hn, hc⟩ := hc
  have hb := h n hn
  rcases hc with rfl | rfl
  · have := hx_range (n := n / 16) (by omega); omega
  · have := hx_range (n := n % 16) (by omega); omega
theorem textL_at : ∀ (l : List Int) (i : Nat) (h : i < l.length), (textL l).getD (2 * i) 0 = hx (l[i] / 16) ∧ (textL l).getD (2 * i + 1) 0 = hx (l[i] % 16)
  | [], _, h => absurd h (by simp)
  | c :: l, 0, _ => ⟨rfl, rfl⟩
  | c :: l, i + 1, h => by
    have := textL_at l i (by simpa using h)
    have e : textL (c :: l) = hx (c / 16) :: hx (c % 16) :: textL l := rfl
    rw [e, show 2 * (i + 1) = 2 * i + 1 + 1 by omega]
    simpa using this
theorem read_text {l : List Int} (hl : l.length = 32) (hw : byteW l) : okR (textL l) ∧ readI (textL l) = l := by
  have hok : okR (textL l) := by
    refine ⟨by rw [textL_len, hl], fun i hi => ?_⟩
    have hb := hw l[i] (List.getElem_mem (by omega))
    have := textL_at l i (by omega)
    exact ⟨by rw [this.1, dig_hx (by omega)]; omega, by rw [this.2, dig_hx (by omega)]; omega⟩
  refine ⟨hok, ?_⟩
  rw [readI, if_pos hok]
  apply List.ext_getElem
  · simp [hl]
  · intro i h1 h2
    have hb := hw l[i] (List.getElem_mem h2)
    have := textL_at l i h2
    simp only [List.getElem_map, List.getElem_range, readB]
    rw [this.1, this.2, dig_hx (by omega), dig_hx (by omega)]; omega
theorem textL_of : ∀ (s : List Int) (n : Nat), s.length = 2 * n → (∀ i, i < n → okD s i) → textL ((List.range n).map (readB s)) = s := by
  intro s n
  induction n generalizing s with
  | zero => intro h _; rw [List.eq_nil_of_length_eq_zero (by omega : s.length = 0)]; rfl
  | succ n ih =>
    intro h hok
    obtain ⟨a, c, t, rfl⟩ : ∃ a c t, s = a :: c :: t := by
      match s, h with
      | [], h => simp at h
      | [_], h => exact absurd h (by simp; omega)
      | a :: c :: t, _ => exact ⟨a, c, t, rfl⟩
    have h0 := hok 0 (by omega)
    have hs : ∀ i, readB (a :: c :: t) (i + 1) = readB t i := by
      intro i; simp only [readB, show 2 * (i + 1) = 2 * i + 1 + 1 by omega]; rfl
    have hokt : ∀ i, i < n → okD t i := by
      intro i hi
      have := hok (i + 1) (by omega)
      simp only [okD, show 2 * (i + 1) = 2 * i + 1 + 1 by omega] at this
      exact this
    have iht := ih t (by simp at h; omega) hokt
    have hr : (List.range (n + 1)).map (readB (a :: c :: t)) = readB (a :: c :: t) 0 :: (List.range n).map (readB t) := by
      rw [List.range_succ_eq_map, List.map_cons, List.map_map]
      exact congrArg _ (List.map_congr_left fun i _ => hs i)
    rw [hr]
    have e : ∀ x l, textL (x :: l) = hx (x / 16) :: hx (x % 16) :: textL l := fun _ _ => rfl
    rw [e, iht]
    have hb : readB (a :: c :: t) 0 = 16 * dig a + dig c := rfl
    have ha := dig_lt a
    have hc := dig_lt c
    have h1 : 0 ≤ dig a := h0.1
    have h2 : 0 ≤ dig c := h0.2
    rw [hb, show (16 * dig a + dig c) / 16 = dig a by omega, show (16 * dig a + dig c) % 16 = dig c by omega, hx_dig h1, hx_dig h2]
theorem text_read {s : List Int} (h : okR s) : textL (readI s) = s := by
  rw [readI, if_pos h]
  exact textL_of s 32 h.1 h.2

/-! ## Texts stand to one another as digests do -/
theorem hx_lt {n m : Int} (h : 0 ≤ n ∧ n < 16) (k : 0 ≤ m ∧ m < 16) : (hx n < hx m ↔ n < m) ∧ (hx n = hx m ↔ n = m) := by
  unfold hx; split <;> split <;> omega
theorem u8eq' {a b : Int} (ha : 0 ≤ a ∧ a < 256) (hb : 0 ≤ b ∧ b < 256) : (UInt8.ofNat a.toNat == UInt8.ofNat b.toNat) = decide (a = b) := by
  have : (UInt8.ofNat a.toNat = UInt8.ofNat b.toNat) ↔ a = b := by
    constructor
    · intro h
      have := congrArg UInt8.toNat h
      simp only [UInt8.toNat_ofNat'] at this
      omega
    · rintro rfl; rfl
  by_cases h : a = b
  · subst h; simp
  · have h2 : ¬ (UInt8.ofNat a.toNat = UInt8.ofNat b.toNat) := fun e => h (this.1 e)
    simp [h, h2]
theorem less_text : ∀ {x y : List Int}, x.length = y.length → byteW x → byteW y → Op.bytesLess (u8l (textL x)) (u8l (textL y)) = decide (cmpI x y = -1)
  | [], [], _, _, _ => rfl
  | [], _ :: _, h, _, _ => by simp at h
  | _ :: _, [], h, _, _ => by simp at h
  | a :: x, b :: y, h, hx', hy' => by
    have ih := less_text (x := x) (y := y) (by simpa using h) (fun c hc => hx' c (List.mem_cons_of_mem _ hc)) (fun c hc => hy' c (List.mem_cons_of_mem _ hc))
    have ha := hx' a List.mem_cons_self
    have hb := hy' b List.mem_cons_self
    have e : ∀ x l, textL (x :: l) = hx (x / 16) :: hx (x % 16) :: textL l := fun _ _ => rfl
    have r1 := hx_range (n := a / 16) (by omega)
    have r2 := hx_range (n := b / 16) (by omega)
    have r3 := hx_range (n := a % 16) (by omega)
    have r4 := hx_range (n := b % 16) (by omega)
    have l1 := hx_lt (n := a / 16) (m := b / 16) (by omega) (by omega)
    have l2 := hx_lt (n := a % 16) (m := b % 16) (by omega) (by omega)
    simp only [e, u8l, List.map_cons, Op.bytesLess, u8lt' (a := hx (a / 16)) (b := hx (b / 16)) (by omega) (by omega), u8lt' (a := hx (a % 16)) (b := hx (b % 16)) (by omega) (by omega), u8eq' (a := hx (a / 16)) (b := hx (b / 16)) (by omega) (by omega), u8eq' (a := hx (a % 16)) (b := hx (b % 16)) (by omega) (by omega), l1.1, l1.2, l2.1, l2.2]
    simp only [u8l] at ih
    rw [ih]
    have hc : cmpI (a :: x) (b :: y) = if a < b then -1 else if b < a then 1 else cmpI x y := rfl
    rw [Bool.eq_iff_iff]
    simp only [Bool.or_eq_true, Bool.and_eq_true, decide_eq_true_eq]
    rw [hc]
    split
    · omega
    · split <;> omega
theorem less_str {x y : List Int} (h : x.length = y.length) (hx : byteW x) (hy : byteW y) : Op.bytesLess (strOfNums (textL x)).data.toList (strOfNums (textL y)).data.toList = decide (cmpI x y = -1) := by
  have := less_text h hx hy
  simpa [strOfNums, u8l] using this
theorem cmpI_flip : ∀ (x y : List Int), cmpI y x = - cmpI x y
  | [], [] => rfl
  | [], _ :: _ => rfl
  | _ :: _, [] => rfl
  | a :: x, b :: y => by
    have := cmpI_flip x y
    simp only [cmpI]
    by_cases h1 : a < b
    · rw [if_pos h1, if_neg (by omega), if_pos h1]; rfl
    · rw [if_neg h1]
      by_cases h2 : b < a
      · rw [if_pos h2, if_neg h1, if_pos h2]
      · rw [if_neg h2, if_neg h2, if_neg h1]; exact this
theorem cmpI_val : ∀ (x y : List Int), cmpI x y = -1 ∨ cmpI x y = 0 ∨ cmpI x y = 1
  | [], [] => .inr (.inl rfl)
  | [], _ :: _ => .inl rfl
  | _ :: _, [] => .inr (.inr rfl)
  | a :: x, b :: y => by
    have := cmpI_val x y
    simp only [cmpI]
    split
    · exact .inl rfl
    · split
      · exact .inr (.inr rfl)
      · exact this
theorem cmpI_zero : ∀ (x y : List Int), x.length = y.length → (cmpI x y = 0 ↔ x = y)
  | [], [], _ => by simp [cmpI]
  | [], _ :: _, h => by simp at h
  | _ :: _, [], h => by simp at h
  | a :: x, b :: y, h => by
    have ih := cmpI_zero x y (by simpa using h)
    simp only [cmpI, List.cons.injEq]
    split
    · rename_i h1; constructor
      · intro e; omega
      · rintro ⟨rfl, _⟩; omega
    · split
      · constructor
        · intro e; omega
        · rintro ⟨rfl, _⟩; omega
      · rw [ih]
        constructor
        · intro e; exact ⟨by omega, e⟩
        · exact fun e => e.2

theorem rep0_eq {l : List Int} (h : readE l ≠ 0) : readI l = List.replicate 32 0 := by
  unfold readE at h
  split at h
  · exact absurd rfl h
  · rename_i h1; rw [readI, if_neg h1]
theorem okR_of {l : List Int} (h : readE l = 0) : okR l := by
  unfold readE at h
  split at h
  · assumption
  · cases h

set_option maxHeartbeats 1000000 in
theorem walk_ShaTexts {W : World} {x y : List Int} {s : ByteArray} (hx : x.length = 32) (wx : byteW x) (hy : y.length = 32) (wy : byteW y) : Calls Try.prog n_entrepotlaw02_ShaTexts #[idV x, idV y, .string s] W (fun e w' => e = .returned (.bool true) ∧ Ext W w') := by
  refine law_of (args := [idV x, idV y, .string s]) ?_
  refine enterS F_entrepotlaw02_ShaTexts rfl rfl rfl ?_
  repeat (first | refine sw_seq ?_ | refine sw_region ?_ | refine sw_block ?_ | refine so_nil ?_ | refine sn_then ?_ | refine sw_skip ?_ | refine sw_exit ?_ | refine sw_ret ?_ | refine sn_then_ret ?_ | refine sn_then_exit ?_ | refine sn_block ?_ | refine sn_block_ret ?_ | refine sn_block_exit ?_ | refine sn_block_other rfl ?_ | refine sn_loop_ret ?_ | refine sn_loop_exit ?_ | refine sw_cond_t rfl ?_ | refine sw_cond_f rfl ?_ | refine so_1 rfl ?_ | refine so_2 rfl (by first | with_reducible exact True.intro | omega | (unfold I64; omega) | (show (0 : Int) ≤ _; omega) | (show _ ≠ _; omega) | (simp; done) | (simp; omega) | (simp only [List.length_append, List.length_map, List.length_cons, List.length_nil, List.length_replicate, List.length_take, List.length_drop] at *; omega)) ?_ | refine so_l 0 rfl rfl rfl ?_ | refine so_l 1 rfl rfl rfl ?_ | refine so_l 2 rfl rfl rfl ?_ | refine so_l 3 rfl rfl rfl ?_ | refine so_l 4 rfl rfl rfl ?_ | refine so_l 5 rfl rfl rfl ?_ | refine so_l 6 rfl rfl rfl ?_ | refine so_l 7 rfl rfl rfl ?_ | refine so_s1 0 rfl rfl rfl rfl ?_ | refine so_s1 1 rfl rfl rfl rfl ?_ | refine so_s1 2 rfl rfl rfl rfl ?_ | refine so_s1 3 rfl rfl rfl rfl ?_ | refine so_s1 4 rfl rfl rfl rfl ?_ | refine so_s1 5 rfl rfl rfl rfl ?_ | refine so_s1 6 rfl rfl rfl rfl ?_ | refine so_s1 7 rfl rfl rfl rfl ?_)
  refine so_box rfl rfl rfl rfl rfl fun g3 => ?_
  refine so_box rfl rfl rfl rfl rfl fun g4 => ?_
  repeat (first | refine sw_seq ?_ | refine sw_region ?_ | refine sw_block ?_ | refine so_nil ?_ | refine sn_then ?_ | refine sw_skip ?_ | refine sw_exit ?_ | refine sw_ret ?_ | refine sn_then_ret ?_ | refine sn_then_exit ?_ | refine sn_block ?_ | refine sn_block_ret ?_ | refine sn_block_exit ?_ | refine sn_block_other rfl ?_ | refine sn_loop_ret ?_ | refine sn_loop_exit ?_ | refine sw_cond_t rfl ?_ | refine sw_cond_f rfl ?_ | refine so_1 rfl ?_ | refine so_2 rfl (by first | with_reducible exact True.intro | omega | (unfold I64; omega) | (show (0 : Int) ≤ _; omega) | (show _ ≠ _; omega) | (simp; done) | (simp; omega) | (simp only [List.length_append, List.length_map, List.length_cons, List.length_nil, List.length_replicate, List.length_take, List.length_drop] at *; omega)) ?_ | refine so_l 0 rfl rfl rfl ?_ | refine so_l 1 rfl rfl rfl ?_ | refine so_l 2 rfl rfl rfl ?_ | refine so_l 3 rfl rfl rfl ?_ | refine so_l 4 rfl rfl rfl ?_ | refine so_l 5 rfl rfl rfl ?_ | refine so_l 6 rfl rfl rfl ?_ | refine so_l 7 rfl rfl rfl ?_ | refine so_s1 0 rfl rfl rfl rfl ?_ | refine so_s1 1 rfl rfl rfl rfl ?_ | refine so_s1 2 rfl rfl rfl rfl ?_ | refine so_s1 3 rfl rfl rfl rfl ?_ | refine so_s1 4 rfl rfl rfl rfl ?_ | refine so_s1 5 rfl rfl rfl rfl ?_ | refine so_s1 6 rfl rfl rfl rfl ?_ | refine so_s1 7 rfl rfl rfl rfl ?_)
  refine so_callE rfl rfl rfl (ShaKnown_S) ?_
  repeat (first | refine sw_seq ?_ | refine sw_region ?_ | refine sw_block ?_ | refine so_nil ?_ | refine sn_then ?_ | refine sw_skip ?_ | refine sw_exit ?_ | refine sw_ret ?_ | refine sn_then_ret ?_ | refine sn_then_exit ?_ | refine sn_block ?_ | refine sn_block_ret ?_ | refine sn_block_exit ?_ | refine sn_block_other rfl ?_ | refine sn_loop_ret ?_ | refine sn_loop_exit ?_ | refine sw_cond_t rfl ?_ | refine sw_cond_f rfl ?_ | refine so_1 rfl ?_ | refine so_2 rfl (by first | with_reducible exact True.intro | omega | (unfold I64; omega) | (show (0 : Int) ≤ _; omega) | (show _ ≠ _; omega) | (simp; done) | (simp; omega) | (simp only [List.length_append, List.length_map, List.length_cons, List.length_nil, List.length_replicate, List.length_take, List.length_drop] at *; omega)) ?_ | refine so_l 0 rfl rfl rfl ?_ | refine so_l 1 rfl rfl rfl ?_ | refine so_l 2 rfl rfl rfl ?_ | refine so_l 3 rfl rfl rfl ?_ | refine so_l 4 rfl rfl rfl ?_ | refine so_l 5 rfl rfl rfl ?_ | refine so_l 6 rfl rfl rfl ?_ | refine so_l 7 rfl rfl rfl ?_ | refine so_s1 0 rfl rfl rfl rfl ?_ | refine so_s1 1 rfl rfl rfl rfl ?_ | refine so_s1 2 rfl rfl rfl rfl ?_ | refine so_s1 3 rfl rfl rfl rfl ?_ | refine so_s1 4 rfl rfl rfl rfl ?_ | refine so_s1 5 rfl rfl rfl rfl ?_ | refine so_s1 6 rfl rfl rfl rfl ?_ | refine so_s1 7 rfl rfl rfl rfl ?_)
  refine sw_if rfl (fun h => ?_) (fun h => ?_)
  · repeat (first | refine sw_seq ?_ | refine sw_region ?_ | refine sw_block ?_ | refine so_nil ?_ | refine sn_then ?_ | refine sw_skip ?_ | refine sw_exit ?_ | refine sw_ret ?_ | refine sn_then_ret ?_ | refine sn_then_exit ?_ | refine sn_block ?_ | refine sn_block_ret ?_ | refine sn_block_exit ?_ | refine sn_block_other rfl ?_ | refine sn_loop_ret ?_ | refine sn_loop_exit ?_ | refine sw_cond_t rfl ?_ | refine sw_cond_f rfl ?_ | refine so_1 rfl ?_ | refine so_2 rfl (by first | with_reducible exact True.intro | omega | (unfold I64; omega) | (show (0 : Int) ≤ _; omega) | (show _ ≠ _; omega) | (simp; done) | (simp; omega) | (simp only [List.length_append, List.length_map, List.length_cons, List.length_nil, List.length_replicate, List.length_take, List.length_drop] at *; omega)) ?_ | refine so_l 0 rfl rfl rfl ?_ | refine so_l 1 rfl rfl rfl ?_ | refine so_l 2 rfl rfl rfl ?_ | refine so_l 3 rfl rfl rfl ?_ | refine so_l 4 rfl rfl rfl ?_ | refine so_l 5 rfl rfl rfl ?_ | refine so_l 6 rfl rfl rfl ?_ | refine so_l 7 rfl rfl rfl ?_ | refine so_s1 0 rfl rfl rfl rfl ?_ | refine so_s1 1 rfl rfl rfl rfl ?_ | refine so_s1 2 rfl rfl rfl rfl ?_ | refine so_s1 3 rfl rfl rfl rfl ?_ | refine so_s1 4 rfl rfl rfl rfl ?_ | refine so_s1 5 rfl rfl rfl rfl ?_ | refine so_s1 6 rfl rfl rfl rfl ?_ | refine so_s1 7 rfl rfl rfl rfl ?_)
    refine sn_ret rfl (.tmp rfl .nil) (ent_keep 2 [] rfl rfl) ?_
    exact ⟨rfl, rfl⟩
  have hl : s.size ≤ 1000000 := by omega
  have hrt := read_text hx wx
  have hrE : readE (textL x) = 0 := by rw [readE, if_pos hrt.1]
  have r1 : ∀ {F}, SC Try.prog n_sha_Read [.string (strOfNums (textL x))] W F (fun v F' => v = .tuple ⟨[idV x, .int .i64 0]⟩ ∧ F' = F) := by
    intro F
    have := Read_S (b := W) (F := F) (s := strOfNums (textL x)) (by rw [strOf_size64 hx]; decide)
    rwa [strI_of (textL_byte wx), hrt.2, hrE] at this
  have hsz := strOf_size64 hx
  have lx := less_str (x := x) (y := y) (by omega) wx wy
  have ly := less_str (x := y) (y := x) (by omega) wy wx
  have cv := cmpI_val x y
  have cf := cmpI_flip x y
  have cz := cmpI_zero x y (by omega)
  have cxy := cmpM_I wx wy
  have cyx := cmpM_I wy wx
  rw [cf] at ly cyx
  have hra := rep0_eq (l := strI s)
  have hok := fun h => text_read (okR_of (l := strI s) h)
  have hrl := readI_len (strI s)
  have hrw : byteW (readI (strI s)) := by
    by_cases ho : okR (strI s)
    · intro c hc
      rw [readI, if_pos ho] at hc
      obtain ⟨i, hi, rfl⟩ := List.mem_map.1 hc
      have hd := ho.2 i (by simpa using hi)
      have h1 := dig_lt ((strI s).getD (2 * i) 0)
      have h2 := dig_lt ((strI s).getD (2 * i + 1) 0)
      have h3 := hd.1
      have h4 := hd.2
      unfold readB; omega
    · rw [readI, if_neg ho]; exact rep0_byte 32
  have r2 : ∀ {F}, SC Try.prog n_sha_Read [.string s] W F (fun v F' => v = .tuple ⟨[idV (readI (strI s)), .int .i64 (readE (strI s))]⟩ ∧ F' = F) := Read_S hl
  repeat (first | refine sw_seq ?_ | refine sw_region ?_ | refine sw_block ?_ | refine so_nil ?_ | refine sn_then ?_ | refine sw_skip ?_ | refine sw_exit ?_ | refine sw_ret ?_ | refine sn_then_ret ?_ | refine sn_then_exit ?_ | refine sn_block ?_ | refine sn_block_ret ?_ | refine sn_block_exit ?_ | refine sn_block_other rfl ?_ | refine sn_loop_ret ?_ | refine sn_loop_exit ?_ | refine sw_cond_t rfl ?_ | refine sw_cond_f rfl ?_ | refine so_1 rfl ?_ | refine so_2 rfl (by first | with_reducible exact True.intro | omega | (unfold I64; omega) | (show (0 : Int) ≤ _; omega) | (show _ ≠ _; omega) | (simp; done) | (simp; omega) | (simp only [List.length_append, List.length_map, List.length_cons, List.length_nil, List.length_replicate, List.length_take, List.length_drop] at *; omega)) ?_ | refine so_l 0 rfl rfl rfl ?_ | refine so_l 1 rfl rfl rfl ?_ | refine so_l 2 rfl rfl rfl ?_ | refine so_l 3 rfl rfl rfl ?_ | refine so_l 4 rfl rfl rfl ?_ | refine so_l 5 rfl rfl rfl ?_ | refine so_l 6 rfl rfl rfl ?_ | refine so_l 7 rfl rfl rfl ?_ | refine so_s1 0 rfl rfl rfl rfl ?_ | refine so_s1 1 rfl rfl rfl rfl ?_ | refine so_s1 2 rfl rfl rfl rfl ?_ | refine so_s1 3 rfl rfl rfl rfl ?_ | refine so_s1 4 rfl rfl rfl rfl ?_ | refine so_s1 5 rfl rfl rfl rfl ?_ | refine so_s1 6 rfl rfl rfl rfl ?_ | refine so_s1 7 rfl rfl rfl rfl ?_)
  refine so_ldA 1 rfl rfl rfl rfl rfl rfl (segID hx) rfl ?_
  refine so_callE rfl rfl rfl (Text_S hx wx) ?_
  refine so_callE rfl rfl rfl (r1) ?_
  repeat (first | refine sw_seq ?_ | refine sw_region ?_ | refine sw_block ?_ | refine so_nil ?_ | refine sn_then ?_ | refine sw_skip ?_ | refine sw_exit ?_ | refine sw_ret ?_ | refine sn_then_ret ?_ | refine sn_then_exit ?_ | refine sn_block ?_ | refine sn_block_ret ?_ | refine sn_block_exit ?_ | refine sn_block_other rfl ?_ | refine sn_loop_ret ?_ | refine sn_loop_exit ?_ | refine sw_cond_t rfl ?_ | refine sw_cond_f rfl ?_ | refine so_1 rfl ?_ | refine so_2 rfl (by first | with_reducible exact True.intro | omega | (unfold I64; omega) | (show (0 : Int) ≤ _; omega) | (show _ ≠ _; omega) | (simp; done) | (simp; omega) | (simp only [List.length_append, List.length_map, List.length_cons, List.length_nil, List.length_replicate, List.length_take, List.length_drop] at *; omega)) ?_ | refine so_l 0 rfl rfl rfl ?_ | refine so_l 1 rfl rfl rfl ?_ | refine so_l 2 rfl rfl rfl ?_ | refine so_l 3 rfl rfl rfl ?_ | refine so_l 4 rfl rfl rfl ?_ | refine so_l 5 rfl rfl rfl ?_ | refine so_l 6 rfl rfl rfl ?_ | refine so_l 7 rfl rfl rfl ?_ | refine so_s1 0 rfl rfl rfl rfl ?_ | refine so_s1 1 rfl rfl rfl rfl ?_ | refine so_s1 2 rfl rfl rfl rfl ?_ | refine so_s1 3 rfl rfl rfl rfl ?_ | refine so_s1 4 rfl rfl rfl rfl ?_ | refine so_s1 5 rfl rfl rfl rfl ?_ | refine so_s1 6 rfl rfl rfl rfl ?_ | refine so_s1 7 rfl rfl rfl rfl ?_)
  refine so_new rfl rfl rfl rfl rfl fun g8 => ?_
  refine so_stW 0 rfl rfl rfl rfl rfl rfl rfl (by rw [u8s_len, hx]; rfl) (u8s_one _) (by simp [hx]) ?_
  repeat (first | refine sw_seq ?_ | refine sw_region ?_ | refine sw_block ?_ | refine so_nil ?_ | refine sn_then ?_ | refine sw_skip ?_ | refine sw_exit ?_ | refine sw_ret ?_ | refine sn_then_ret ?_ | refine sn_then_exit ?_ | refine sn_block ?_ | refine sn_block_ret ?_ | refine sn_block_exit ?_ | refine sn_block_other rfl ?_ | refine sn_loop_ret ?_ | refine sn_loop_exit ?_ | refine sw_cond_t rfl ?_ | refine sw_cond_f rfl ?_ | refine so_1 rfl ?_ | refine so_2 rfl (by first | with_reducible exact True.intro | omega | (unfold I64; omega) | (show (0 : Int) ≤ _; omega) | (show _ ≠ _; omega) | (simp; done) | (simp; omega) | (simp only [List.length_append, List.length_map, List.length_cons, List.length_nil, List.length_replicate, List.length_take, List.length_drop] at *; omega)) ?_ | refine so_l 0 rfl rfl rfl ?_ | refine so_l 1 rfl rfl rfl ?_ | refine so_l 2 rfl rfl rfl ?_ | refine so_l 3 rfl rfl rfl ?_ | refine so_l 4 rfl rfl rfl ?_ | refine so_l 5 rfl rfl rfl ?_ | refine so_l 6 rfl rfl rfl ?_ | refine so_l 7 rfl rfl rfl ?_ | refine so_s1 0 rfl rfl rfl rfl ?_ | refine so_s1 1 rfl rfl rfl rfl ?_ | refine so_s1 2 rfl rfl rfl rfl ?_ | refine so_s1 3 rfl rfl rfl rfl ?_ | refine so_s1 4 rfl rfl rfl rfl ?_ | refine so_s1 5 rfl rfl rfl rfl ?_ | refine so_s1 6 rfl rfl rfl rfl ?_ | refine so_s1 7 rfl rfl rfl rfl ?_)
  refine so_know 26 (.bool false) rfl rfl ?_
  refine so_ldA 0 rfl rfl rfl rfl rfl rfl (segID hx) rfl ?_
  refine so_ldA 2 rfl rfl rfl rfl rfl rfl (segID hx) rfl ?_
  refine so_pu rfl (pu_neI (as00 := x) (bs := x) rfl rfl hx hx) rfl ?_
  repeat (first | refine sw_seq ?_ | refine sw_region ?_ | refine sw_block ?_ | refine so_nil ?_ | refine sn_then ?_ | refine sw_skip ?_ | refine sw_exit ?_ | refine sw_ret ?_ | refine sn_then_ret ?_ | refine sn_then_exit ?_ | refine sn_block ?_ | refine sn_block_ret ?_ | refine sn_block_exit ?_ | refine sn_block_other rfl ?_ | refine sn_loop_ret ?_ | refine sn_loop_exit ?_ | refine sw_cond_t rfl ?_ | refine sw_cond_f rfl ?_ | refine so_1 rfl ?_ | refine so_2 rfl (by first | with_reducible exact True.intro | omega | (unfold I64; omega) | (show (0 : Int) ≤ _; omega) | (show _ ≠ _; omega) | (simp; done) | (simp; omega) | (simp only [List.length_append, List.length_map, List.length_cons, List.length_nil, List.length_replicate, List.length_take, List.length_drop] at *; omega)) ?_ | refine so_l 0 rfl rfl rfl ?_ | refine so_l 1 rfl rfl rfl ?_ | refine so_l 2 rfl rfl rfl ?_ | refine so_l 3 rfl rfl rfl ?_ | refine so_l 4 rfl rfl rfl ?_ | refine so_l 5 rfl rfl rfl ?_ | refine so_l 6 rfl rfl rfl ?_ | refine so_l 7 rfl rfl rfl ?_ | refine so_s1 0 rfl rfl rfl rfl ?_ | refine so_s1 1 rfl rfl rfl rfl ?_ | refine so_s1 2 rfl rfl rfl rfl ?_ | refine so_s1 3 rfl rfl rfl rfl ?_ | refine so_s1 4 rfl rfl rfl rfl ?_ | refine so_s1 5 rfl rfl rfl rfl ?_ | refine so_s1 6 rfl rfl rfl rfl ?_ | refine so_s1 7 rfl rfl rfl rfl ?_)
  refine so_know 31 (.bool false) rfl (by simp) ?_
  refine so_ldA 2 rfl rfl rfl rfl rfl rfl (segID hx) rfl ?_
  refine so_callE rfl rfl rfl (Text_S hx wx) ?_
  repeat (first | refine sw_seq ?_ | refine sw_region ?_ | refine sw_block ?_ | refine so_nil ?_ | refine sn_then ?_ | refine sw_skip ?_ | refine sw_exit ?_ | refine sw_ret ?_ | refine sn_then_ret ?_ | refine sn_then_exit ?_ | refine sn_block ?_ | refine sn_block_ret ?_ | refine sn_block_exit ?_ | refine sn_block_other rfl ?_ | refine sn_loop_ret ?_ | refine sn_loop_exit ?_ | refine sw_cond_t rfl ?_ | refine sw_cond_f rfl ?_ | refine so_1 rfl ?_ | refine so_2 rfl (by first | with_reducible exact True.intro | omega | (unfold I64; omega) | (show (0 : Int) ≤ _; omega) | (show _ ≠ _; omega) | (simp; done) | (simp; omega) | (simp only [List.length_append, List.length_map, List.length_cons, List.length_nil, List.length_replicate, List.length_take, List.length_drop] at *; omega)) ?_ | refine so_l 0 rfl rfl rfl ?_ | refine so_l 1 rfl rfl rfl ?_ | refine so_l 2 rfl rfl rfl ?_ | refine so_l 3 rfl rfl rfl ?_ | refine so_l 4 rfl rfl rfl ?_ | refine so_l 5 rfl rfl rfl ?_ | refine so_l 6 rfl rfl rfl ?_ | refine so_l 7 rfl rfl rfl ?_ | refine so_s1 0 rfl rfl rfl rfl ?_ | refine so_s1 1 rfl rfl rfl rfl ?_ | refine so_s1 2 rfl rfl rfl rfl ?_ | refine so_s1 3 rfl rfl rfl rfl ?_ | refine so_s1 4 rfl rfl rfl rfl ?_ | refine so_s1 5 rfl rfl rfl rfl ?_ | refine so_s1 6 rfl rfl rfl rfl ?_ | refine so_s1 7 rfl rfl rfl rfl ?_)
  refine sw_know 36 (.bool false) rfl (by rw [hsz]; rfl) ?_
  repeat (first | refine sw_seq ?_ | refine sw_region ?_ | refine sw_block ?_ | refine so_nil ?_ | refine sn_then ?_ | refine sw_skip ?_ | refine sw_exit ?_ | refine sw_ret ?_ | refine sn_then_ret ?_ | refine sn_then_exit ?_ | refine sn_block ?_ | refine sn_block_ret ?_ | refine sn_block_exit ?_ | refine sn_block_other rfl ?_ | refine sn_loop_ret ?_ | refine sn_loop_exit ?_ | refine sw_cond_t rfl ?_ | refine sw_cond_f rfl ?_ | refine so_1 rfl ?_ | refine so_2 rfl (by first | with_reducible exact True.intro | omega | (unfold I64; omega) | (show (0 : Int) ≤ _; omega) | (show _ ≠ _; omega) | (simp; done) | (simp; omega) | (simp only [List.length_append, List.length_map, List.length_cons, List.length_nil, List.length_replicate, List.length_take, List.length_drop] at *; omega)) ?_ | refine so_l 0 rfl rfl rfl ?_ | refine so_l 1 rfl rfl rfl ?_ | refine so_l 2 rfl rfl rfl ?_ | refine so_l 3 rfl rfl rfl ?_ | refine so_l 4 rfl rfl rfl ?_ | refine so_l 5 rfl rfl rfl ?_ | refine so_l 6 rfl rfl rfl ?_ | refine so_l 7 rfl rfl rfl ?_ | refine so_s1 0 rfl rfl rfl rfl ?_ | refine so_s1 1 rfl rfl rfl rfl ?_ | refine so_s1 2 rfl rfl rfl rfl ?_ | refine so_s1 3 rfl rfl rfl rfl ?_ | refine so_s1 4 rfl rfl rfl rfl ?_ | refine so_s1 5 rfl rfl rfl rfl ?_ | refine so_s1 6 rfl rfl rfl rfl ?_ | refine so_s1 7 rfl rfl rfl rfl ?_)
  refine sw_draw flo (pt g8 t_api_ID (u8s x) :: pt g4 t_api_ID (u8s y) :: pt g3 t_api_ID (u8s x) :: [Is W]) (by decide +kernel) (Ent.refl _) ?_
  refine sd_ldA 2 rfl rfl rfl rfl rfl rfl (segID hx) rfl rfl ?_
  refine sd_callE rfl rfl rfl rfl (Text_S hx wx) (Ent.refl _) ?_
  refine sd_ldA 1 rfl rfl rfl rfl rfl rfl (segID hy) rfl rfl ?_
  refine sd_callE rfl rfl rfl rfl (Text_S hy wy) (Ent.refl _) ?_
  repeat (first | refine sd_1 rfl (.inl rfl) ?_ | refine sd_1 rfl (.inr rfl) ?_ | refine sd_2 rfl rfl (by first | with_reducible exact True.intro | omega | (unfold I64; omega) | (show (0 : Int) ≤ _; omega) | (show _ ≠ _; omega) | (simp; done) | (simp; omega) | (simp only [List.length_append, List.length_map, List.length_cons, List.length_nil, List.length_replicate, List.length_take, List.length_drop] at *; omega)) ?_ | refine sd_l 0 rfl rfl rfl rfl ?_ | refine sd_l 1 rfl rfl rfl rfl ?_ | refine sd_l 2 rfl rfl rfl rfl ?_ | refine sd_l 3 rfl rfl rfl rfl ?_ | refine sd_l 4 rfl rfl rfl rfl ?_ | refine sd_l 5 rfl rfl rfl rfl ?_ | refine sd_l 6 rfl rfl rfl rfl ?_ | refine sd_l 7 rfl rfl rfl rfl ?_)
  refine sd_nil ?_
  repeat (first | refine sw_seq ?_ | refine sw_region ?_ | refine sw_block ?_ | refine so_nil ?_ | refine sn_then ?_ | refine sw_skip ?_ | refine sw_exit ?_ | refine sw_ret ?_ | refine sn_then_ret ?_ | refine sn_then_exit ?_ | refine sn_block ?_ | refine sn_block_ret ?_ | refine sn_block_exit ?_ | refine sn_block_other rfl ?_ | refine sn_loop_ret ?_ | refine sn_loop_exit ?_ | refine sw_cond_t rfl ?_ | refine sw_cond_f rfl ?_ | refine so_1 rfl ?_ | refine so_2 rfl (by first | with_reducible exact True.intro | omega | (unfold I64; omega) | (show (0 : Int) ≤ _; omega) | (show _ ≠ _; omega) | (simp; done) | (simp; omega) | (simp only [List.length_append, List.length_map, List.length_cons, List.length_nil, List.length_replicate, List.length_take, List.length_drop] at *; omega)) ?_ | refine so_l 0 rfl rfl rfl ?_ | refine so_l 1 rfl rfl rfl ?_ | refine so_l 2 rfl rfl rfl ?_ | refine so_l 3 rfl rfl rfl ?_ | refine so_l 4 rfl rfl rfl ?_ | refine so_l 5 rfl rfl rfl ?_ | refine so_l 6 rfl rfl rfl ?_ | refine so_l 7 rfl rfl rfl ?_ | refine so_s1 0 rfl rfl rfl rfl ?_ | refine so_s1 1 rfl rfl rfl rfl ?_ | refine so_s1 2 rfl rfl rfl rfl ?_ | refine so_s1 3 rfl rfl rfl rfl ?_ | refine so_s1 4 rfl rfl rfl rfl ?_ | refine so_s1 5 rfl rfl rfl rfl ?_ | refine so_s1 6 rfl rfl rfl rfl ?_ | refine so_s1 7 rfl rfl rfl rfl ?_)
  refine sw_know 37 (.bool (decide (cmpI x y = -1))) rfl (congrArg Value.bool lx) ?_
  generalize hcc : cmpI x y = cc at *
  refine sw_cut [(2, .string s), (3, .pointer (some ⟨g3, 0, none⟩)), (4, .pointer (some ⟨g4, 0, none⟩)), (7, .bool true), (10, .int .i64 cc)] (pt g4 t_api_ID (u8s y) :: pt g3 t_api_ID (u8s x) :: [Is W]) ?_ (fun fin => ?_)
  · have hokS : readE (strI s) = 0 → strOfNums (textL (readI (strI s))) = s := fun h => by rw [hok h, of_strI]
    clear hok
    have hbc : decide (cc = 0) = decide (x = y) := decide_eq_decide.2 cz
    generalize readI (strI s) = dr at *
    generalize readE (strI s) = er at *
    repeat (first | refine sw_seq ?_ | refine sw_region ?_ | refine sw_block ?_ | refine so_nil ?_ | refine sn_then ?_ | refine sw_skip ?_ | refine sw_exit ?_ | refine sw_ret ?_ | refine sn_then_ret ?_ | refine sn_then_exit ?_ | refine sn_block ?_ | refine sn_block_ret ?_ | refine sn_block_exit ?_ | refine sn_block_other rfl ?_ | refine sn_loop_ret ?_ | refine sn_loop_exit ?_ | refine sw_cond_t rfl ?_ | refine sw_cond_f rfl ?_ | refine so_1 rfl ?_ | refine so_2 rfl (by first | with_reducible exact True.intro | omega | (unfold I64; omega) | (show (0 : Int) ≤ _; omega) | (show _ ≠ _; omega) | (simp; done) | (simp; omega) | (simp only [List.length_append, List.length_map, List.length_cons, List.length_nil, List.length_replicate, List.length_take, List.length_drop] at *; omega)) ?_ | refine so_l 0 rfl rfl rfl ?_ | refine so_l 1 rfl rfl rfl ?_ | refine so_l 2 rfl rfl rfl ?_ | refine so_l 3 rfl rfl rfl ?_ | refine so_l 4 rfl rfl rfl ?_ | refine so_l 5 rfl rfl rfl ?_ | refine so_l 6 rfl rfl rfl ?_ | refine so_l 7 rfl rfl rfl ?_ | refine so_s1 0 rfl rfl rfl rfl ?_ | refine so_s1 1 rfl rfl rfl rfl ?_ | refine so_s1 2 rfl rfl rfl rfl ?_ | refine so_s1 3 rfl rfl rfl rfl ?_ | refine so_s1 4 rfl rfl rfl rfl ?_ | refine so_s1 5 rfl rfl rfl rfl ?_ | refine so_s1 6 rfl rfl rfl rfl ?_ | refine so_s1 7 rfl rfl rfl rfl ?_)
    refine so_callE rfl rfl rfl (r2) ?_
    repeat (first | refine sw_seq ?_ | refine sw_region ?_ | refine sw_block ?_ | refine so_nil ?_ | refine sn_then ?_ | refine sw_skip ?_ | refine sw_exit ?_ | refine sw_ret ?_ | refine sn_then_ret ?_ | refine sn_then_exit ?_ | refine sn_block ?_ | refine sn_block_ret ?_ | refine sn_block_exit ?_ | refine sn_block_other rfl ?_ | refine sn_loop_ret ?_ | refine sn_loop_exit ?_ | refine sw_cond_t rfl ?_ | refine sw_cond_f rfl ?_ | refine so_1 rfl ?_ | refine so_2 rfl (by first | with_reducible exact True.intro | omega | (unfold I64; omega) | (show (0 : Int) ≤ _; omega) | (show _ ≠ _; omega) | (simp; done) | (simp; omega) | (simp only [List.length_append, List.length_map, List.length_cons, List.length_nil, List.length_replicate, List.length_take, List.length_drop] at *; omega)) ?_ | refine so_l 0 rfl rfl rfl ?_ | refine so_l 1 rfl rfl rfl ?_ | refine so_l 2 rfl rfl rfl ?_ | refine so_l 3 rfl rfl rfl ?_ | refine so_l 4 rfl rfl rfl ?_ | refine so_l 5 rfl rfl rfl ?_ | refine so_l 6 rfl rfl rfl ?_ | refine so_l 7 rfl rfl rfl ?_ | refine so_s1 0 rfl rfl rfl rfl ?_ | refine so_s1 1 rfl rfl rfl rfl ?_ | refine so_s1 2 rfl rfl rfl rfl ?_ | refine so_s1 3 rfl rfl rfl rfl ?_ | refine so_s1 4 rfl rfl rfl rfl ?_ | refine so_s1 5 rfl rfl rfl rfl ?_ | refine so_s1 6 rfl rfl rfl rfl ?_ | refine so_s1 7 rfl rfl rfl rfl ?_)
    refine so_new rfl rfl rfl rfl rfl fun g11 => ?_
    refine so_stW 0 rfl rfl rfl rfl rfl rfl rfl (by rw [u8s_len, hrl]; rfl) (u8s_one _) (by simp [hrl]) ?_
    repeat (first | refine sw_seq ?_ | refine sw_region ?_ | refine sw_block ?_ | refine so_nil ?_ | refine sn_then ?_ | refine sw_skip ?_ | refine sw_exit ?_ | refine sw_ret ?_ | refine sn_then_ret ?_ | refine sn_then_exit ?_ | refine sn_block ?_ | refine sn_block_ret ?_ | refine sn_block_exit ?_ | refine sn_block_other rfl ?_ | refine sn_loop_ret ?_ | refine sn_loop_exit ?_ | refine sw_cond_t rfl ?_ | refine sw_cond_f rfl ?_ | refine so_1 rfl ?_ | refine so_2 rfl (by first | with_reducible exact True.intro | omega | (unfold I64; omega) | (show (0 : Int) ≤ _; omega) | (show _ ≠ _; omega) | (simp; done) | (simp; omega) | (simp only [List.length_append, List.length_map, List.length_cons, List.length_nil, List.length_replicate, List.length_take, List.length_drop] at *; omega)) ?_ | refine so_l 0 rfl rfl rfl ?_ | refine so_l 1 rfl rfl rfl ?_ | refine so_l 2 rfl rfl rfl ?_ | refine so_l 3 rfl rfl rfl ?_ | refine so_l 4 rfl rfl rfl ?_ | refine so_l 5 rfl rfl rfl ?_ | refine so_l 6 rfl rfl rfl ?_ | refine so_l 7 rfl rfl rfl ?_ | refine so_s1 0 rfl rfl rfl rfl ?_ | refine so_s1 1 rfl rfl rfl rfl ?_ | refine so_s1 2 rfl rfl rfl rfl ?_ | refine so_s1 3 rfl rfl rfl rfl ?_ | refine so_s1 4 rfl rfl rfl rfl ?_ | refine so_s1 5 rfl rfl rfl rfl ?_ | refine so_s1 6 rfl rfl rfl rfl ?_ | refine so_s1 7 rfl rfl rfl rfl ?_)
    refine so_ldA 2 rfl rfl rfl rfl rfl rfl (segID hx) rfl ?_
    refine so_ldA 1 rfl rfl rfl rfl rfl rfl (segID hy) rfl ?_
    refine so_callE rfl rfl rfl (Compare_S hx hy) ?_
    rw [cxy]
    repeat (first | refine sw_seq ?_ | refine sw_region ?_ | refine sw_block ?_ | refine so_nil ?_ | refine sn_then ?_ | refine sw_skip ?_ | refine sw_exit ?_ | refine sw_ret ?_ | refine sn_then_ret ?_ | refine sn_then_exit ?_ | refine sn_block ?_ | refine sn_block_ret ?_ | refine sn_block_exit ?_ | refine sn_block_other rfl ?_ | refine sn_loop_ret ?_ | refine sn_loop_exit ?_ | refine sw_cond_t rfl ?_ | refine sw_cond_f rfl ?_ | refine so_1 rfl ?_ | refine so_2 rfl (by first | with_reducible exact True.intro | omega | (unfold I64; omega) | (show (0 : Int) ≤ _; omega) | (show _ ≠ _; omega) | (simp; done) | (simp; omega) | (simp only [List.length_append, List.length_map, List.length_cons, List.length_nil, List.length_replicate, List.length_take, List.length_drop] at *; omega)) ?_ | refine so_l 0 rfl rfl rfl ?_ | refine so_l 1 rfl rfl rfl ?_ | refine so_l 2 rfl rfl rfl ?_ | refine so_l 3 rfl rfl rfl ?_ | refine so_l 4 rfl rfl rfl ?_ | refine so_l 5 rfl rfl rfl ?_ | refine so_l 6 rfl rfl rfl ?_ | refine so_l 7 rfl rfl rfl ?_ | refine so_s1 0 rfl rfl rfl rfl ?_ | refine so_s1 1 rfl rfl rfl rfl ?_ | refine so_s1 2 rfl rfl rfl rfl ?_ | refine so_s1 3 rfl rfl rfl rfl ?_ | refine so_s1 4 rfl rfl rfl rfl ?_ | refine so_s1 5 rfl rfl rfl rfl ?_ | refine so_s1 6 rfl rfl rfl rfl ?_ | refine so_s1 7 rfl rfl rfl rfl ?_)
    refine so_know 62 (.bool true) rfl (congrArg Value.bool (decide_eq_true rfl)) ?_
    refine so_ldA 1 rfl rfl rfl rfl rfl rfl (segID hy) rfl ?_
    refine so_ldA 2 rfl rfl rfl rfl rfl rfl (segID hx) rfl ?_
    refine so_callE rfl rfl rfl (Compare_S hy hx) ?_
    rw [cyx]
    repeat (first | refine sw_seq ?_ | refine sw_region ?_ | refine sw_block ?_ | refine so_nil ?_ | refine sn_then ?_ | refine sw_skip ?_ | refine sw_exit ?_ | refine sw_ret ?_ | refine sn_then_ret ?_ | refine sn_then_exit ?_ | refine sn_block ?_ | refine sn_block_ret ?_ | refine sn_block_exit ?_ | refine sn_block_other rfl ?_ | refine sn_loop_ret ?_ | refine sn_loop_exit ?_ | refine sw_cond_t rfl ?_ | refine sw_cond_f rfl ?_ | refine so_1 rfl ?_ | refine so_2 rfl (by first | with_reducible exact True.intro | omega | (unfold I64; omega) | (show (0 : Int) ≤ _; omega) | (show _ ≠ _; omega) | (simp; done) | (simp; omega) | (simp only [List.length_append, List.length_map, List.length_cons, List.length_nil, List.length_replicate, List.length_take, List.length_drop] at *; omega)) ?_ | refine so_l 0 rfl rfl rfl ?_ | refine so_l 1 rfl rfl rfl ?_ | refine so_l 2 rfl rfl rfl ?_ | refine so_l 3 rfl rfl rfl ?_ | refine so_l 4 rfl rfl rfl ?_ | refine so_l 5 rfl rfl rfl ?_ | refine so_l 6 rfl rfl rfl ?_ | refine so_l 7 rfl rfl rfl ?_ | refine so_s1 0 rfl rfl rfl rfl ?_ | refine so_s1 1 rfl rfl rfl rfl ?_ | refine so_s1 2 rfl rfl rfl rfl ?_ | refine so_s1 3 rfl rfl rfl rfl ?_ | refine so_s1 4 rfl rfl rfl rfl ?_ | refine so_s1 5 rfl rfl rfl rfl ?_ | refine so_s1 6 rfl rfl rfl rfl ?_ | refine so_s1 7 rfl rfl rfl rfl ?_)
    refine so_know 70 (.bool true) rfl (congrArg Value.bool (decide_eq_true (by rw [I64.wrap (by unfold I64; omega)]; omega))) ?_
    repeat (first | refine sw_seq ?_ | refine sw_region ?_ | refine sw_block ?_ | refine so_nil ?_ | refine sn_then ?_ | refine sw_skip ?_ | refine sw_exit ?_ | refine sw_ret ?_ | refine sn_then_ret ?_ | refine sn_then_exit ?_ | refine sn_block ?_ | refine sn_block_ret ?_ | refine sn_block_exit ?_ | refine sn_block_other rfl ?_ | refine sn_loop_ret ?_ | refine sn_loop_exit ?_ | refine sw_cond_t rfl ?_ | refine sw_cond_f rfl ?_ | refine so_1 rfl ?_ | refine so_2 rfl (by first | with_reducible exact True.intro | omega | (unfold I64; omega) | (show (0 : Int) ≤ _; omega) | (show _ ≠ _; omega) | (simp; done) | (simp; omega) | (simp only [List.length_append, List.length_map, List.length_cons, List.length_nil, List.length_replicate, List.length_take, List.length_drop] at *; omega)) ?_ | refine so_l 0 rfl rfl rfl ?_ | refine so_l 1 rfl rfl rfl ?_ | refine so_l 2 rfl rfl rfl ?_ | refine so_l 3 rfl rfl rfl ?_ | refine so_l 4 rfl rfl rfl ?_ | refine so_l 5 rfl rfl rfl ?_ | refine so_l 6 rfl rfl rfl ?_ | refine so_l 7 rfl rfl rfl ?_ | refine so_s1 0 rfl rfl rfl rfl ?_ | refine so_s1 1 rfl rfl rfl rfl ?_ | refine so_s1 2 rfl rfl rfl rfl ?_ | refine so_s1 3 rfl rfl rfl rfl ?_ | refine so_s1 4 rfl rfl rfl rfl ?_ | refine so_s1 5 rfl rfl rfl rfl ?_ | refine so_s1 6 rfl rfl rfl rfl ?_ | refine so_s1 7 rfl rfl rfl rfl ?_)
    refine so_ldA 2 rfl rfl rfl rfl rfl rfl (segID hx) rfl ?_
    refine so_ldA 1 rfl rfl rfl rfl rfl rfl (segID hy) rfl ?_
    refine so_pu rfl (pu_eqI (as00 := x) (bs := y) rfl rfl hx hy) rfl ?_
    repeat (first | refine sw_seq ?_ | refine sw_region ?_ | refine sw_block ?_ | refine so_nil ?_ | refine sn_then ?_ | refine sw_skip ?_ | refine sw_exit ?_ | refine sw_ret ?_ | refine sn_then_ret ?_ | refine sn_then_exit ?_ | refine sn_block ?_ | refine sn_block_ret ?_ | refine sn_block_exit ?_ | refine sn_block_other rfl ?_ | refine sn_loop_ret ?_ | refine sn_loop_exit ?_ | refine sw_cond_t rfl ?_ | refine sw_cond_f rfl ?_ | refine so_1 rfl ?_ | refine so_2 rfl (by first | with_reducible exact True.intro | omega | (unfold I64; omega) | (show (0 : Int) ≤ _; omega) | (show _ ≠ _; omega) | (simp; done) | (simp; omega) | (simp only [List.length_append, List.length_map, List.length_cons, List.length_nil, List.length_replicate, List.length_take, List.length_drop] at *; omega)) ?_ | refine so_l 0 rfl rfl rfl ?_ | refine so_l 1 rfl rfl rfl ?_ | refine so_l 2 rfl rfl rfl ?_ | refine so_l 3 rfl rfl rfl ?_ | refine so_l 4 rfl rfl rfl ?_ | refine so_l 5 rfl rfl rfl ?_ | refine so_l 6 rfl rfl rfl ?_ | refine so_l 7 rfl rfl rfl ?_ | refine so_s1 0 rfl rfl rfl rfl ?_ | refine so_s1 1 rfl rfl rfl rfl ?_ | refine so_s1 2 rfl rfl rfl rfl ?_ | refine so_s1 3 rfl rfl rfl rfl ?_ | refine so_s1 4 rfl rfl rfl rfl ?_ | refine so_s1 5 rfl rfl rfl rfl ?_ | refine so_s1 6 rfl rfl rfl rfl ?_ | refine so_s1 7 rfl rfl rfl rfl ?_)
    refine so_know 78 (.bool true) rfl (by rw [hbc, hbq]) ?_
    repeat (first | refine sw_seq ?_ | refine sw_region ?_ | refine sw_block ?_ | refine so_nil ?_ | refine sn_then ?_ | refine sw_skip ?_ | refine sw_exit ?_ | refine sw_ret ?_ | refine sn_then_ret ?_ | refine sn_then_exit ?_ | refine sn_block ?_ | refine sn_block_ret ?_ | refine sn_block_exit ?_ | refine sn_block_other rfl ?_ | refine sn_loop_ret ?_ | refine sn_loop_exit ?_ | refine sw_cond_t rfl ?_ | refine sw_cond_f rfl ?_ | refine so_1 rfl ?_ | refine so_2 rfl (by first | with_reducible exact True.intro | omega | (unfold I64; omega) | (show (0 : Int) ≤ _; omega) | (show _ ≠ _; omega) | (simp; done) | (simp; omega) | (simp only [List.length_append, List.length_map, List.length_cons, List.length_nil, List.length_replicate, List.length_take, List.length_drop] at *; omega)) ?_ | refine so_l 0 rfl rfl rfl ?_ | refine so_l 1 rfl rfl rfl ?_ | refine so_l 2 rfl rfl rfl ?_ | refine so_l 3 rfl rfl rfl ?_ | refine so_l 4 rfl rfl rfl ?_ | refine so_l 5 rfl rfl rfl ?_ | refine so_l 6 rfl rfl rfl ?_ | refine so_l 7 rfl rfl rfl ?_ | refine so_s1 0 rfl rfl rfl rfl ?_ | refine so_s1 1 rfl rfl rfl rfl ?_ | refine so_s1 2 rfl rfl rfl rfl ?_ | refine so_s1 3 rfl rfl rfl rfl ?_ | refine so_s1 4 rfl rfl rfl rfl ?_ | refine so_s1 5 rfl rfl rfl rfl ?_ | refine so_s1 6 rfl rfl rfl rfl ?_ | refine so_s1 7 rfl rfl rfl rfl ?_)
    by_cases her : er = 0
    · subst her
      refine so_know 81 (.bool false) rfl rfl ?_
      repeat (first | refine sw_seq ?_ | refine sw_region ?_ | refine sw_block ?_ | refine so_nil ?_ | refine sn_then ?_ | refine sw_skip ?_ | refine sw_exit ?_ | refine sw_ret ?_ | refine sn_then_ret ?_ | refine sn_then_exit ?_ | refine sn_block ?_ | refine sn_block_ret ?_ | refine sn_block_exit ?_ | refine sn_block_other rfl ?_ | refine sn_loop_ret ?_ | refine sn_loop_exit ?_ | refine sw_cond_t rfl ?_ | refine sw_cond_f rfl ?_ | refine so_1 rfl ?_ | refine so_2 rfl (by first | with_reducible exact True.intro | omega | (unfold I64; omega) | (show (0 : Int) ≤ _; omega) | (show _ ≠ _; omega) | (simp; done) | (simp; omega) | (simp only [List.length_append, List.length_map, List.length_cons, List.length_nil, List.length_replicate, List.length_take, List.length_drop] at *; omega)) ?_ | refine so_l 0 rfl rfl rfl ?_ | refine so_l 1 rfl rfl rfl ?_ | refine so_l 2 rfl rfl rfl ?_ | refine so_l 3 rfl rfl rfl ?_ | refine so_l 4 rfl rfl rfl ?_ | refine so_l 5 rfl rfl rfl ?_ | refine so_l 6 rfl rfl rfl ?_ | refine so_l 7 rfl rfl rfl ?_ | refine so_s1 0 rfl rfl rfl rfl ?_ | refine so_s1 1 rfl rfl rfl rfl ?_ | refine so_s1 2 rfl rfl rfl rfl ?_ | refine so_s1 3 rfl rfl rfl rfl ?_ | refine so_s1 4 rfl rfl rfl rfl ?_ | refine so_s1 5 rfl rfl rfl rfl ?_ | refine so_s1 6 rfl rfl rfl rfl ?_ | refine so_s1 7 rfl rfl rfl rfl ?_)
      refine so_know 86 (.bool false) rfl rfl ?_
      repeat (first | refine sw_seq ?_ | refine sw_region ?_ | refine sw_block ?_ | refine so_nil ?_ | refine sn_then ?_ | refine sw_skip ?_ | refine sw_exit ?_ | refine sw_ret ?_ | refine sn_then_ret ?_ | refine sn_then_exit ?_ | refine sn_block ?_ | refine sn_block_ret ?_ | refine sn_block_exit ?_ | refine sn_block_other rfl ?_ | refine sn_loop_ret ?_ | refine sn_loop_exit ?_ | refine sw_cond_t rfl ?_ | refine sw_cond_f rfl ?_ | refine so_1 rfl ?_ | refine so_2 rfl (by first | with_reducible exact True.intro | omega | (unfold I64; omega) | (show (0 : Int) ≤ _; omega) | (show _ ≠ _; omega) | (simp; done) | (simp; omega) | (simp only [List.length_append, List.length_map, List.length_cons, List.length_nil, List.length_replicate, List.length_take, List.length_drop] at *; omega)) ?_ | refine so_l 0 rfl rfl rfl ?_ | refine so_l 1 rfl rfl rfl ?_ | refine so_l 2 rfl rfl rfl ?_ | refine so_l 3 rfl rfl rfl ?_ | refine so_l 4 rfl rfl rfl ?_ | refine so_l 5 rfl rfl rfl ?_ | refine so_l 6 rfl rfl rfl ?_ | refine so_l 7 rfl rfl rfl ?_ | refine so_s1 0 rfl rfl rfl rfl ?_ | refine so_s1 1 rfl rfl rfl rfl ?_ | refine so_s1 2 rfl rfl rfl rfl ?_ | refine so_s1 3 rfl rfl rfl rfl ?_ | refine so_s1 4 rfl rfl rfl rfl ?_ | refine so_s1 5 rfl rfl rfl rfl ?_ | refine so_s1 6 rfl rfl rfl rfl ?_ | refine so_s1 7 rfl rfl rfl rfl ?_)
      refine so_know 89 (.bool true) rfl (congrArg Value.bool (decide_eq_true rfl)) ?_
      refine so_ldA 0 rfl rfl rfl rfl rfl rfl (segID hrl) rfl ?_
      refine so_callE rfl rfl rfl (Text_S hrl hrw) ?_
      rw [hokS rfl]
      repeat (first | refine sw_seq ?_ | refine sw_region ?_ | refine sw_block ?_ | refine so_nil ?_ | refine sn_then ?_ | refine sw_skip ?_ | refine sw_exit ?_ | refine sw_ret ?_ | refine sn_then_ret ?_ | refine sn_then_exit ?_ | refine sn_block ?_ | refine sn_block_ret ?_ | refine sn_block_exit ?_ | refine sn_block_other rfl ?_ | refine sn_loop_ret ?_ | refine sn_loop_exit ?_ | refine sw_cond_t rfl ?_ | refine sw_cond_f rfl ?_ | refine so_1 rfl ?_ | refine so_2 rfl (by first | with_reducible exact True.intro | omega | (unfold I64; omega) | (show (0 : Int) ≤ _; omega) | (show _ ≠ _; omega) | (simp; done) | (simp; omega) | (simp only [List.length_append, List.length_map, List.length_cons, List.length_nil, List.length_replicate, List.length_take, List.length_drop] at *; omega)) ?_ | refine so_l 0 rfl rfl rfl ?_ | refine so_l 1 rfl rfl rfl ?_ | refine so_l 2 rfl rfl rfl ?_ | refine so_l 3 rfl rfl rfl ?_ | refine so_l 4 rfl rfl rfl ?_ | refine so_l 5 rfl rfl rfl ?_ | refine so_l 6 rfl rfl rfl ?_ | refine so_l 7 rfl rfl rfl ?_ | refine so_s1 0 rfl rfl rfl rfl ?_ | refine so_s1 1 rfl rfl rfl rfl ?_ | refine so_s1 2 rfl rfl rfl rfl ?_ | refine so_s1 3 rfl rfl rfl rfl ?_ | refine so_s1 4 rfl rfl rfl rfl ?_ | refine so_s1 5 rfl rfl rfl rfl ?_ | refine so_s1 6 rfl rfl rfl rfl ?_ | refine so_s1 7 rfl rfl rfl rfl ?_)
      refine sn_ret rfl (.tmp rfl .nil) (ent_keep 3 [] rfl rfl) ?_
      exact ⟨by simp [tupl], rfl⟩
    · refine so_know 81 (.bool true) rfl (by simp [her]) ?_
      have hd := hra her
      refine so_ldA 0 rfl rfl rfl rfl rfl rfl (segID hrl) rfl ?_
      repeat (first | refine sw_seq ?_ | refine sw_region ?_ | refine sw_block ?_ | refine so_nil ?_ | refine sn_then ?_ | refine sw_skip ?_ | refine sw_exit ?_ | refine sw_ret ?_ | refine sn_then_ret ?_ | refine sn_then_exit ?_ | refine sn_block ?_ | refine sn_block_ret ?_ | refine sn_block_exit ?_ | refine sn_block_other rfl ?_ | refine sn_loop_ret ?_ | refine sn_loop_exit ?_ | refine sw_cond_t rfl ?_ | refine sw_cond_f rfl ?_ | refine so_1 rfl ?_ | refine so_2 rfl (by first | with_reducible exact True.intro | omega | (unfold I64; omega) | (show (0 : Int) ≤ _; omega) | (show _ ≠ _; omega) | (simp; done) | (simp; omega) | (simp only [List.length_append, List.length_map, List.length_cons, List.length_nil, List.length_replicate, List.length_take, List.length_drop] at *; omega)) ?_ | refine so_l 0 rfl rfl rfl ?_ | refine so_l 1 rfl rfl rfl ?_ | refine so_l 2 rfl rfl rfl ?_ | refine so_l 3 rfl rfl rfl ?_ | refine so_l 4 rfl rfl rfl ?_ | refine so_l 5 rfl rfl rfl ?_ | refine so_l 6 rfl rfl rfl ?_ | refine so_l 7 rfl rfl rfl ?_ | refine so_s1 0 rfl rfl rfl rfl ?_ | refine so_s1 1 rfl rfl rfl rfl ?_ | refine so_s1 2 rfl rfl rfl rfl ?_ | refine so_s1 3 rfl rfl rfl rfl ?_ | refine so_s1 4 rfl rfl rfl rfl ?_ | refine so_s1 5 rfl rfl rfl rfl ?_ | refine so_s1 6 rfl rfl rfl rfl ?_ | refine so_s1 7 rfl rfl rfl rfl ?_)
      subst hd
      refine so_pu rfl (pu_eqI (as00 := List.replicate 32 0) (bs := List.replicate 32 0) rfl rfl rfl rfl) rfl ?_
      repeat (first | refine sw_seq ?_ | refine sw_region ?_ | refine sw_block ?_ | refine so_nil ?_ | refine sn_then ?_ | refine sw_skip ?_ | refine sw_exit ?_ | refine sw_ret ?_ | refine sn_then_ret ?_ | refine sn_then_exit ?_ | refine sn_block ?_ | refine sn_block_ret ?_ | refine sn_block_exit ?_ | refine sn_block_other rfl ?_ | refine sn_loop_ret ?_ | refine sn_loop_exit ?_ | refine sw_cond_t rfl ?_ | refine sw_cond_f rfl ?_ | refine so_1 rfl ?_ | refine so_2 rfl (by first | with_reducible exact True.intro | omega | (unfold I64; omega) | (show (0 : Int) ≤ _; omega) | (show _ ≠ _; omega) | (simp; done) | (simp; omega) | (simp only [List.length_append, List.length_map, List.length_cons, List.length_nil, List.length_replicate, List.length_take, List.length_drop] at *; omega)) ?_ | refine so_l 0 rfl rfl rfl ?_ | refine so_l 1 rfl rfl rfl ?_ | refine so_l 2 rfl rfl rfl ?_ | refine so_l 3 rfl rfl rfl ?_ | refine so_l 4 rfl rfl rfl ?_ | refine so_l 5 rfl rfl rfl ?_ | refine so_l 6 rfl rfl rfl ?_ | refine so_l 7 rfl rfl rfl ?_ | refine so_s1 0 rfl rfl rfl rfl ?_ | refine so_s1 1 rfl rfl rfl rfl ?_ | refine so_s1 2 rfl rfl rfl rfl ?_ | refine so_s1 3 rfl rfl rfl rfl ?_ | refine so_s1 4 rfl rfl rfl rfl ?_ | refine so_s1 5 rfl rfl rfl rfl ?_ | refine so_s1 6 rfl rfl rfl rfl ?_ | refine so_s1 7 rfl rfl rfl rfl ?_)
      refine sn_ret rfl (.tmp rfl .nil) (ent_keep 3 [] rfl rfl) ?_
      exact ⟨rfl, rfl⟩
  · refine sw_if rfl (fun h1 => ?_) (fun h1 => ?_)
    · refine sw_region ?_
      refine so_1 rfl ?_
      refine so_nil (fin _ _ ⟨rfl, rfl, rfl, rfl, by rw [h1]; rfl, trivial⟩ (ent_keep 3 [1, 2] rfl rfl))
    refine sw_seq ?_
    refine sw_draw flo (pt g8 t_api_ID (u8s x) :: pt g4 t_api_ID (u8s y) :: pt g3 t_api_ID (u8s x) :: [Is W]) (by decide +kernel) (Ent.refl _) ?_
    refine sd_ldA 2 rfl rfl rfl rfl rfl rfl (segID hx) rfl rfl ?_
    refine sd_callE rfl rfl rfl rfl (Text_S hx wx) (Ent.refl _) ?_
    refine sd_ldA 1 rfl rfl rfl rfl rfl rfl (segID hy) rfl rfl ?_
    refine sd_callE rfl rfl rfl rfl (Text_S hy wy) (Ent.refl _) ?_
    repeat (first | refine sd_1 rfl (.inl rfl) ?_ | refine sd_1 rfl (.inr rfl) ?_ | refine sd_2 rfl rfl (by first | with_reducible exact True.intro | omega | (unfold I64; omega) | (show (0 : Int) ≤ _; omega) | (show _ ≠ _; omega) | (simp; done) | (simp; omega) | (simp only [List.length_append, List.length_map, List.length_cons, List.length_nil, List.length_replicate, List.length_take, List.length_drop] at *; omega)) ?_ | refine sd_l 0 rfl rfl rfl rfl ?_ | refine sd_l 1 rfl rfl rfl rfl ?_ | refine sd_l 2 rfl rfl rfl rfl ?_ | refine sd_l 3 rfl rfl rfl rfl ?_ | refine sd_l 4 rfl rfl rfl rfl ?_ | refine sd_l 5 rfl rfl rfl rfl ?_ | refine sd_l 6 rfl rfl rfl rfl ?_ | refine sd_l 7 rfl rfl rfl rfl ?_)
    refine sd_nil (sn_then ?_)
    refine sw_know 43 (.bool (decide (-cc = -1))) rfl (congrArg Value.bool ly) ?_
    refine sw_if rfl (fun h2 => ?_) (fun h2 => ?_)
    · refine sw_region ?_
      refine so_1 rfl ?_
      refine so_nil (fin _ _ ⟨rfl, rfl, rfl, rfl, by rw [show cc = 1 by omega]; rfl, trivial⟩ (ent_keep 3 [1, 2] rfl rfl))
    · refine sw_skip (fin _ _ ⟨rfl, rfl, rfl, rfl, by rw [show cc = 0 by omega]; rfl, trivial⟩ (ent_keep 3 [1, 2] rfl rfl))
end Go.Proofs.Ytgebobjihojljaa
