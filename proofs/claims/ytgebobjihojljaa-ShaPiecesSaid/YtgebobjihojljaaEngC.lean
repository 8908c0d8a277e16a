/- The engine, part three: what an operation yields in whatever world, reckoned ('pev'; under a condition: 'pevc'). Conditions: as part two. -/
import Derived.Test.YtgebobjihojljaaEngB
namespace Go.Eng
open Go

def ikb : IntKind → IntKind → Bool
  | .i8, .i8 | .i16, .i16 | .i32, .i32 | .i64, .i64 | .u8, .u8 | .u16, .u16 | .u32, .u32 | .u64, .u64 => true
  | _, _ => false
theorem ikb_eq {j k : IntKind} (h : ikb j k = true) : j = k := by cases j <;> cases k <;> first | rfl | cases h

def bitv (op : BinOp) (k : IntKind) (x y : Int) : Int :=
  match op with
  | .and => k.wrap (BitVec.ofInt k.bits x &&& BitVec.ofInt k.bits y).toNat
  | .or => k.wrap (BitVec.ofInt k.bits x ||| BitVec.ofInt k.bits y).toNat
  | .xor => k.wrap (BitVec.ofInt k.bits x ^^^ BitVec.ofInt k.bits y).toNat
  | _ => k.wrap (BitVec.ofInt k.bits x &&& ~~~(BitVec.ofInt k.bits y)).toNat

/-- All bits turned. -/
def cpl (k : IntKind) (n : Int) : Int := bitv .xor k (if k.signed then -1 else k.max) n

def narrow : IntKind → Bool
  | .i64 => false
  | _ => true

/-- Two integers of one kind, no condition. -/
def ibin (op : BinOp) (k : IntKind) (a b : Int) : Option Value :=
  match op with
  | .eql => some (.bool (decide (a = b)))
  | .neq => some (.bool (!decide (a = b)))
  | .lss => some (.bool (decide (a < b)))
  | .leq => some (.bool (decide (a ≤ b)))
  | .gtr => some (.bool (decide (b < a)))
  | .geq => some (.bool (decide (b ≤ a)))
  | .add => match narrow k with | true => some (.int k (k.wrap (a + b))) | false => none
  | .sub => match narrow k with | true => some (.int k (k.wrap (a - b))) | false => none
  | .mul => match narrow k with | true => some (.int k (k.wrap (a * b))) | false => none
  | .and => some (.int k (bitv .and k a b))
  | .or => some (.int k (bitv .or k a b))
  | .xor => some (.int k (bitv .xor k a b))
  | .andNot => some (.int k (bitv .andNot k a b))
  | _ => none

theorem ibin_run {P : Program} {op : BinOp} {k : IntKind} {a b : Int} {v : Value} {t : Nat} (h : ibin op k a b = some v) (w : World) :
    (binOp op t (.int k a) (.int k b)).run P w = .ok v w := by
  cases op <;> simp only [ibin] at h <;> first
    | (cases h; done)
    | (split at h <;> first | (cases h; done) | (cases h; simp [binOp, Op.intArith]))
    | (cases h; simp [binOp, Op.intCmp, Op.intBits, bitv]; done)
    | (cases h; simp [binOp, Op.intCmp]; rfl)

theorem eqGuard_int {P : Program} {op : BinOp} {t : Nat} {x y : Operand} {k k' : IntKind} {a b : Int} (w : World) : (eqGuard op t x y (.int k a) (.int k' b)).run P w = .ok () w := by
  unfold eqGuard
  cases op <;> simp
theorem eqGuard_bool {P : Program} {op : BinOp} {t : Nat} {x y : Operand} {a b : Bool} (w : World) : (eqGuard op t x y (.bool a) (.bool b)).run P w = .ok () w := by
  unfold eqGuard
  cases op <;> simp
theorem eqGuard_string {P : Program} {op : BinOp} {t : Nat} {x y : Operand} {a b : ByteArray} (w : World) : (eqGuard op t x y (.string a) (.string b)).run P w = .ok () w := by
  unfold eqGuard
  cases op <;> simp

/-- Two strings. -/
def sbin (op : BinOp) (a b : ByteArray) : Option Value :=
  match op with
  | .eql => some (.bool (decide (a.data = b.data)))
  | .neq => some (.bool (!decide (a.data = b.data)))
  | .lss => some (.bool (Op.bytesLess a.data.toList b.data.toList))
  | .gtr => some (.bool (Op.bytesLess b.data.toList a.data.toList))
  | _ => none

/-- Two bools. -/
def bbin (op : BinOp) (a b : Bool) : Option Value :=
  match op with
  | .eql => some (.bool (bqq a b))
  | .neq => some (.bool (!bqq a b))
  | _ => none

def isIface : TypeDesc → Bool
  | .interface _ => true
  | _ => false
def aggT : TypeDesc → Bool
  | .struct _ | .array _ _ => true
  | _ => false

theorem TT.run_any' {P : Program} {tt : Nat → Option TI} [TT P tt] {t : Nat} {i : TI} (h : tt t = some i) : ∃ d, (∀ w, (underlying t).run P w = .ok d w) ∧ isIface d = isIface i.desc := by
  cases hs : isSt i.desc with
  | false => exact ⟨_, TT.run_und h hs, rfl⟩
  | true =>
    obtain ⟨fs, h1, _⟩ := TT.run_st (P := P) h hs
    refine ⟨_, h1, ?_⟩
    generalize i.desc = d at hs
    cases d <;> first | rfl | (simp [isSt] at hs)
theorem TT.run_any {P : Program} {tt : Nat → Option TI} [TT P tt] {t : Nat} {i : TI} (h : tt t = some i) : ∃ d, ∀ w, (underlying t).run P w = .ok d w := by
  obtain ⟨d, h1, _⟩ := TT.run_any' (P := P) h
  exact ⟨d, h1⟩

def mulz (i : Nat) : Nat → Nat
  | 1 => i
  | s => i * s
theorem mulz_eq (i s : Nat) : mulz i s = i * s := by unfold mulz; split <;> simp

def lenOf : Value → Option Int
  | .slice _ n _ => some n
  | .string s => some s.size
  | _ => none

/-- An operation's value, in whatever world. -/
def pev (tt : Nat → Option TI) (E : List (Nat × Value)) : Op → Option Value
  | .move x => ev E x
  | .assign x => ev E x
  | .pick c a b => match ev E c with
    | some (.bool true) => ev E a
    | some (.bool false) => ev E b
    | _ => none
  | .binOp op t x y _ => match ev E x, ev E y with
    | some (.int k a), some (.int k' b) => match ikb k k' with
      | true => ibin op k a b
      | false => none
    | some (.bool a), some (.bool b) => match tt t with
      | some ⟨.bool, _, _, _, _⟩ => bbin op a b
      | _ => none
    | some (.string a), some (.string b) => sbin op a b
    | _, _ => none
  | .unOp .not _ x => match ev E x with
    | some (.bool b) => some (.bool (!b))
    | _ => none
  | .unOp .neg _ x => match ev E x with
    | some (.int k n) => some (.int k (k.wrap (0 - n)))
    | _ => none
  | .unOp .xor _ x => match ev E x with
    | some (.int k n) => some (.int k (cpl k n))
    | _ => none
  | .convert src dst x => match tt src, tt dst, ev E x with
    | some _, some ⟨.int k, _, _, _, _⟩, some (.int _ n) => some (.int k (k.wrap n))
    | some _, some ⟨.string, _, _, _, _⟩, some (.string s) => some (.string s)
    | _, _, _ => none
  | .fieldAddr s x f => match tt s, ev E x with
    | some ⟨.struct _, _, _, _, fs⟩, some (.pointer (some ⟨b, o, none⟩)) => match nth fs f with
      | some (ft, fo) => match tt ft with
        | some ⟨_, _ + 1, _, _, _⟩ => some (.pointer (some ⟨b, o + fo, none⟩))
        | _ => none
      | none => none
    | _, _ => none
  | .makeInterface t x => match tt t, ev E x with
    | some i, some v => match isIface i.desc with
      | false => some (.iface t v)
      | true => none
    | _, _ => none
  | .makeFunc fn ⟨first⟩ ⟨cap⟩ => match evs E first, evs E cap with
    | some vs, some us => some (.func fn ⟨vs⟩ ⟨us⟩)
    | _, _ => none
  | .extract x i => match ev E x with
    | some (.tuple ⟨vs⟩) => nth vs i
    | _ => none
  | .nilCheck x => match ev E x with
    | some (.pointer (some a)) => some (.pointer (some a))
    | _ => none
  | .call ⟨.builtin .len, ⟨[x]⟩, ⟨[t]⟩⟩ => match tt t, ev E x with
    | some ⟨.slice _, _, _, _, _⟩, some (.slice _ n _) => some (.int .i64 n)
    | some ⟨.string, _, _, _, _⟩, some (.string s) => some (.int .i64 s.size)
    | some ⟨.array n _, _, _, _, _⟩, some _ => some (.int .i64 n)
    | _, _ => none
  | .call ⟨.builtin .cap, ⟨[x]⟩, ⟨[t]⟩⟩ => match tt t, ev E x with
    | some ⟨.slice _, _, _, _, _⟩, some (.slice _ _ n) => some (.int .i64 n)
    | _, _ => none
  | .call ⟨.builtin .max, ⟨[x, y]⟩, _⟩ => match ev E x, ev E y with
    | some (.int k a), some (.int _ b) => some (.int k (max a b))
    | _, _ => none
  | .call ⟨.builtin .min, ⟨[x, y]⟩, _⟩ => match ev E x, ev E y with
    | some (.int k a), some (.int _ b) => some (.int k (min a b))
    | _, _ => none
  | _ => none

theorem evs_map {E : List (Nat × Value)} {ρ : Operand → Value} (hρ : ∀ x u, ev E x = some u → ρ x = u) : ∀ (xs : List Operand) (vs : List Value), evs E xs = some vs → xs.map ρ = vs := by
  intro xs
  induction xs with
  | nil => intro vs hx; simp [evs] at hx; simp [hx]
  | cons x xs ih =>
    intro vs hx
    simp only [evs] at hx
    split at hx
    · rename_i v vs' h1 h2
      cases hx
      simp [hρ _ _ h1, ih _ h2]
    · cases hx

theorem evs_mapA {E : List (Nat × Value)} {ρ : Operand → Value} (hρ : ∀ x u, ev E x = some u → ρ x = u) {xs : List Operand} {vs : List Value} (h : evs E xs = some vs) :
    Array.map ρ ⟨xs⟩ = ⟨vs⟩ := by
  apply Array.ext'
  simp [evs_map hρ xs vs h]

theorem max_int (a b : Int) : (if b > a then b else a) = max a b := by
  rw [Int.max_def]; split <;> split <;> omega
theorem min_int (a b : Int) : (if b < a then b else a) = min a b := by
  rw [Int.min_def]; split <;> split <;> omega


theorem sbin_run {P : Program} {op : BinOp} {a b : ByteArray} {v : Value} {t : Nat} (h : sbin op a b = some v) (w : World) :
    (binOp op t (.string a) (.string b)).run P w = .ok v w := by
  have e : (a.data.toList == b.data.toList) = decide (a.data = b.data) := by
    rw [Bool.eq_iff_iff]; simp
  have key : ∀ r : Bool, r = !(Op.bytesLess a.data.toList b.data.toList || a.data.toList == b.data.toList) → r = Op.bytesLess b.data.toList a.data.toList := by
    intro r hr
    subst hr
    generalize a.data.toList = x
    generalize b.data.toList = y
    induction x generalizing y with
    | nil => cases y <;> simp [Op.bytesLess]
    | cons p x ih =>
      cases y with
      | nil => simp [Op.bytesLess]
      | cons q y =>
        have := ih y
        simp only [Op.bytesLess]
        by_cases h1 : p < q
        · have h2 : ¬ q < p := UInt8.lt_asymm h1
          have h3 : p ≠ q := by rintro rfl; exact UInt8.lt_irrefl _ h1
          simp [h1, h2, Ne.symm h3]
        · by_cases h2 : p = q
          · subst h2
            simp [UInt8.lt_irrefl]
            simpa using this
          · have h3 : q < p := by
              rcases UInt8.lt_or_lt_of_ne h2 with h | h
              · exact absurd h h1
              · exact h
            simp [h1, h2, h3]
  cases op <;> simp only [sbin] at h <;> first
    | (cases h; done)
    | (cases h; simp [binOp, Op.stringOp, ByteArray.toList_eq, e]; done)
    | (cases h; simp only [binOp, Op.stringOp, ByteArray.toList_eq, Sem.run_pure]; rw [key _ rfl])

theorem bbin_run {P : Program} {tt : Nat → Option TI} [TT P tt] {op : BinOp} {a b : Bool} {v : Value} {t n m : Nat} {z : Value} {fl : List (Nat × Nat)} (ht : tt t = some ⟨.bool, n, m, z, fl⟩) (h : bbin op a b = some v) (w : World) :
    (binOp op t (.bool a) (.bool b)).run P w = .ok v w := by
  have hb : ∀ a b : Bool, (a == b) = bqq a b := by decide
  have hu := TT.und (P := P) t _ ht rfl
  have he : ∀ d, (Op.equalIn (d + 1) t (.bool a) (.bool b)).run P w = .ok (bqq a b) w := by
    intro d
    simp [Op.equalIn, underlying, hu, hb]
  cases op <;> simp only [bbin] at h <;> first
    | (cases h; done)
    | (cases h; simp [binOp, Op.equal, Op.maxDepth, he 9999])

theorem pev_sound {P : Program} {tt : Nat → Option TI} [TT P tt] {E : List (Nat × Value)} {op : Op} {ty : TypeId} {v : Value} (h : pev tt E op = some v) : Pu P E op ty v := by
  intro w ρ o hρ ho _
  unfold pev at h
  split at h
  · simp [execOp, ho, hρ _ _ h]
  · simp [execOp, ho, hρ _ _ h]
  · split at h
    · rename_i hc; simp [execOp, ho, hρ _ _ h, hρ _ _ hc, asBool]
    · rename_i hc; simp [execOp, ho, hρ _ _ h, hρ _ _ hc, asBool]
    · cases h
  · split at h
    · rename_i h1 h2
      split at h
      · rename_i hk
        obtain rfl := ikb_eq hk
        simp [execOp, ho, hρ _ _ h1, hρ _ _ h2, eqGuard_int, ibin_run h]
      · cases h
    · rename_i h1 h2
      split at h
      · rename_i ht
        simp [execOp, ho, hρ _ _ h1, hρ _ _ h2, eqGuard_bool, bbin_run ht h]
      · cases h
    · rename_i h1 h2
      simp [execOp, ho, hρ _ _ h1, hρ _ _ h2, eqGuard_string, sbin_run h]
    · cases h
  · split at h
    · rename_i hc; cases h; simp [execOp, ho, hρ _ _ hc, Op.unary]
    · cases h
  · split at h
    · rename_i hc; cases h; simp [execOp, ho, hρ _ _ hc, Op.unary, Op.intArith]
    · cases h
  · split at h
    · rename_i hc; cases h; simp [execOp, ho, hρ _ _ hc, Op.unary, Op.intBits, cpl, bitv]
    · cases h
  · split at h
    · rename_i h1 h2 h3; cases h
      obtain ⟨sd, hs⟩ := TT.run_any (P := P) h1
      simp [execOp, ho, hρ _ _ h3, convert, hs, TT.run_und h2 rfl, Conv.intToInt]
    · rename_i h1 h2 h3; cases h
      obtain ⟨sd, hs⟩ := TT.run_any (P := P) h1
      simp [execOp, ho, hρ _ _ h3, convert, hs, TT.run_und h2 rfl]
    · cases h
  · split at h
    · rename_i h1 h2
      split at h
      · rename_i h3
        split at h
        · rename_i h4; cases h
          obtain ⟨fa, hf1, hf2⟩ := TT.run_st (P := P) h1 rfl
          simp only at hf2
          rw [nth_eq, ← hf2, List.getElem?_map, Option.map_eq_some_iff] at h3
          obtain ⟨fl, h5, h6⟩ := h3
          simp only [Prod.mk.injEq] at h6
          obtain ⟨rfl, rfl⟩ := h6
          rw [Array.getElem?_toList] at h5
          simp [execOp, ho, hρ _ _ h2, Instr.fieldAt, hf1, h5, Instr.sureAddr, fieldPlace, TT.run_size h4, Addr.add]
        · cases h
      · cases h
    · cases h
  · split at h
    · rename_i ti tv h1 h2
      split at h
      · rename_i h3; cases h
        obtain ⟨sd, hs, hi⟩ := TT.run_any' (P := P) h1
        rw [h3] at hi
        cases sd <;> first | (simp [isIface] at hi; done) | (simp [execOp, ho, hρ _ _ h2, Instr.makeInterface, hs])
      · cases h
    · cases h
  · split at h
    · rename_i h1 h2; cases h
      simp [execOp, ho, Instr.makeFunc, evs_mapA hρ h1, evs_mapA hρ h2]
    · cases h
  · split at h
    · rename_i h1
      rw [nth_eq] at h
      simp [execOp, ho, hρ _ _ h1, Instr.extract, h]
    · cases h
  · split at h
    · rename_i h1; cases h
      simp [execOp, ho, hρ _ _ h1]
    · cases h
  · split at h
    · rename_i h1 h2; cases h
      simp [execOp, ho, resolve, invoke, builtin, Builtin.len_, hρ _ _ h2, TT.run_und h1 rfl, goInt]
    · rename_i h1 h2; cases h
      simp [execOp, ho, resolve, invoke, builtin, Builtin.len_, hρ _ _ h2, TT.run_und h1 rfl, goInt]
    · rename_i h1 h2; cases h
      simp [execOp, ho, resolve, invoke, builtin, Builtin.len_, hρ _ _ h2, TT.run_und h1 rfl, goInt]
    · cases h
  · split at h
    · rename_i h1 h2; cases h
      simp [execOp, ho, resolve, invoke, builtin, Builtin.cap_, hρ _ _ h2, TT.run_und h1 rfl, goInt]
    · cases h
  · split at h
    · rename_i h1 h2; cases h
      simp [execOp, ho, resolve, invoke, builtin, Builtin.max_, hρ _ _ h1, hρ _ _ h2, Builtin.max2, max_int]
    · cases h
  · split at h
    · rename_i h1 h2; cases h
      simp [execOp, ho, resolve, invoke, builtin, Builtin.min_, hρ _ _ h1, hρ _ _ h2, Builtin.min2, min_int]
    · cases h
  · cases h

section
variable {P : Program} {tt : Nat → Option TI} [TT P tt] {ro : Option Nat} {N : Nat} {l rest : List Oper} {Q : Exit → Act → World → Prop} {E : List (Nat × Value)} {ds : List Deferred} {w w' : World}
  {d : Nat} {op : Op} {ty : TypeId} {pos : String} {aft : Array Edge} {g : Option (Nat × Bool)} {v : Value}
/-- One operation that yields its value in whatever world. -/
theorem o_p (hg : wants l E g = some true) (hx : pev tt E op = some v) (hd : Nat.blt d N = true) (h : OW P ro N l rest Q ((d, v) :: E) ds w) :
    OW P ro N l (⟨some d, op, ty, pos, aft, g⟩ :: rest) Q E ds w := ow_pu hg (pev_sound hx) hd h
end
end Go.Eng
