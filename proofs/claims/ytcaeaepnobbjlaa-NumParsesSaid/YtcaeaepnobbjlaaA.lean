import Derived.Test.YtcaeaepnobbjlaaRows
import Derived.WalkKit
import Derived.WalkSpells
import Derived.WalkLawsBesides
import Derived.Lib.Hide
import Derived.Laws.Externs
namespace Go.Proofs.Ytcaeaepnobbjlaa
set_option linter.unusedVariables false
set_option linter.unusedSimpArgs false
open Go.RowKit

/-- 2^64, behind a name: a great numeral in the context stops a walk. -/
def M : Nat := 18446744073709551616
theorem M_eq : M = 18446744073709551616 := rfl
/-- A number of 128 bits as Go has it, by its halves. -/
abbrev wv (h l : Nat) : Value := .agg #[.int .u64 (h : Int), .int .u64 (l : Int)]

theorem carry_cases {c : Nat} (hc : c ≤ 1) : c = 0 ∨ c = 1 := by omega
def sub64Row : Array Value → Sem Value := fun args => do
  let (x, y, b) ← Extern.MathBitsCarry.three "Sub64" args
  pure (Extern.MathBitsCarry.pair ((x + Extern.MathBitsCarry.m64 - y - b) % Extern.MathBitsCarry.m64) (if x < y + b then 1 else 0))
def add64Row : Array Value → Sem Value := fun args => do
  let (x, y, c) ← Extern.MathBitsCarry.three "Add64" args
  pure (Extern.MathBitsCarry.pair ((x + y + c) % Extern.MathBitsCarry.m64) ((x + y + c) / Extern.MathBitsCarry.m64))
theorem run_add64Row (x y c : Nat) (hc : c ≤ 1) (w : World) :
    (add64Row #[.int .u64 x, .int .u64 y, .int .u64 c]).run Try.prog w = .ok (.tuple #[.int .u64 (((x + y + c) % M : Nat) : Int), .int .u64 (((x + y + c) / M : Nat) : Int)]) w := by
  rcases carry_cases hc with rfl | rfl <;> rfl
theorem run_sub64Row (x y b : Nat) (hb : b ≤ 1) (w : World) :
    (sub64Row #[.int .u64 x, .int .u64 y, .int .u64 b]).run Try.prog w = .ok (.tuple #[.int .u64 (((x + M - y - b) % M : Nat) : Int), .int .u64 ((if x < y + b then 1 else 0 : Nat) : Int)]) w := by
  rcases carry_cases hb with rfl | rfl <;> rfl
theorem add64_call (x y c : Nat) (hc : c ≤ 1) (w : World) :
    (callFunc 69 #[.int .u64 x, .int .u64 y, .int .u64 c]).run Try.prog w = .ok (.value (.tuple #[.int .u64 (((x + y + c) % M : Nat) : Int), .int .u64 (((x + y + c) / M : Nat) : Int)])) w := by
  rw [run_callFunc_extern Try.func69 (by kernel_rfl) (by kernel_rfl) (by kernel_rfl) (e := add64Row) (by kernel_rfl), run_add64Row x y c hc]
  rfl
theorem sub64_call (x y b : Nat) (hb : b ≤ 1) (w : World) :
    (callFunc 72 #[.int .u64 x, .int .u64 y, .int .u64 b]).run Try.prog w = .ok (.value (.tuple #[.int .u64 (((x + M - y - b) % M : Nat) : Int), .int .u64 ((if x < y + b then 1 else 0 : Nat) : Int)])) w := by
  rw [run_callFunc_extern Try.func72 (by kernel_rfl) (by kernel_rfl) (by kernel_rfl) (e := sub64Row) (by kernel_rfl), run_sub64Row x y b hb]
  rfl

/-- 2^128. -/
def MM : Nat := 340282366920938463463374607431768211456
theorem MM_eq : MM = 340282366920938463463374607431768211456 := rfl
/-- A number below 2^128 as Go has it. -/
def W (n : Nat) : Value := wv (n / M) (n % M)
theorem W_form (n : Nat) : ∃ h l : Nat, W n = wv h l := ⟨_, _, rfl⟩
theorem wv_W (h l : Nat) (hl : l < M) : wv h l = W (h * M + l) := by
  have e1 : (h * M + l) / M = h := by rw [M_eq] at *; omega
  have e2 : (h * M + l) % M = l := by rw [M_eq] at *; omega
  rw [W, e1, e2]

set_option maxHeartbeats 400000 in
theorem add_walk (ah al bh bl s c t d : Nat) (o : Bool) (w : World)
    (h1 : ∀ w, (callFunc 69 #[.int .u64 al, .int .u64 bl, .int .u64 0]).run Try.prog w = .ok (.value (.tuple #[.int .u64 s, .int .u64 c])) w)
    (h2 : ∀ w, (callFunc 69 #[.int .u64 ah, .int .u64 bh, .int .u64 c]).run Try.prog w = .ok (.value (.tuple #[.int .u64 t, .int .u64 d])) w)
    (ho : ((d : Int) == 1) = o) :
    Calls Try.prog 19 #[wv ah al, wv bh bl] w fun e w' => e = .returned (.tuple #[wv t s, .bool o]) ∧ Below w.heap.size w w' := by
  have HO := Lib.hid ho
  clear ho
  go_enter Try.func19, Try.ntmps19
  go_wp2
  refine bodyPost_ret (v := .tuple #[wv t s, .bool ((d : Int) == 1)]) (by simp [results, Try.results19, go_sem]) rfl ⟨by rw [HO.out], ?_⟩
  exact (((Below.refl _ _).alloc (Nat.le_refl _) _).alloc (by simp) _).alloc (by simp; omega) _

theorem beq_one (d : Nat) (o : Bool) (h : d = if o = true then 1 else 0) : ((d : Int) == 1) = o := by
  subst h
  cases o <;> rfl

theorem add_num (a b : Nat) (ha : a < MM) (hb : b < MM) :
    (a / M + b / M + (a % M + b % M + 0) / M) % M = (a + b) % MM / M ∧ (a % M + b % M + 0) % M = (a + b) % MM % M ∧ (a % M + b % M + 0) / M ≤ 1 ∧
    (a / M + b / M + (a % M + b % M + 0) / M) / M = if decide (MM ≤ a + b) = true then 1 else 0 := by
  rw [MM_eq, M_eq] at *
  refine ⟨by omega, by omega, by omega, ?_⟩
  by_cases h : 340282366920938463463374607431768211456 ≤ a + b
  · rw [if_pos (decide_eq_true h)]; omega
  · rw [if_neg (by simpa using h)]; omega

theorem add_any (a b : Nat) (ha : a < MM) (hb : b < MM) (w : World) :
    Calls Try.prog 19 #[W a, W b] w fun e w' => e = .returned (.tuple #[W ((a + b) % MM), .bool (decide (MM ≤ a + b))]) ∧ Below w.heap.size w w' := by
  obtain ⟨h1, h2, h3, h4⟩ := add_num a b ha hb
  have h := add_walk (a / M) (a % M) (b / M) (b % M) _ _ _ _ _ w (add64_call (a % M) (b % M) 0 (by omega)) (add64_call (a / M) (b / M) _ h3) (beq_one _ _ h4)
  rw [h1, h2] at h
  exact h

set_option maxHeartbeats 400000 in
theorem sub_walk (ah al bh bl s c t d : Nat) (o : Bool) (w : World)
    (h1 : ∀ w, (callFunc 72 #[.int .u64 al, .int .u64 bl, .int .u64 0]).run Try.prog w = .ok (.value (.tuple #[.int .u64 s, .int .u64 c])) w)
    (h2 : ∀ w, (callFunc 72 #[.int .u64 ah, .int .u64 bh, .int .u64 c]).run Try.prog w = .ok (.value (.tuple #[.int .u64 t, .int .u64 d])) w)
    (ho : ((d : Int) == 1) = o) :
    Calls Try.prog 22 #[wv ah al, wv bh bl] w fun e w' => e = .returned (.tuple #[wv t s, .bool o]) ∧ Below w.heap.size w w' := by
  have HO := Lib.hid ho
  clear ho
  go_enter Try.func22, Try.ntmps22
  go_wp2
  refine bodyPost_ret (v := .tuple #[wv t s, .bool ((d : Int) == 1)]) (by simp [results, Try.results22, go_sem]) rfl ⟨by rw [HO.out], ?_⟩
  exact (((Below.refl _ _).alloc (Nat.le_refl _) _).alloc (by simp) _).alloc (by simp; omega) _

theorem sub_num (a b : Nat) (ha : a < MM) (hb : b < MM) (c : Nat) (hc : c = if a % M < b % M + 0 then 1 else 0) :
    (a / M + M - b / M - c) % M = (a + MM - b) % MM / M ∧ (a % M + M - b % M - 0) % M = (a + MM - b) % MM % M ∧ c ≤ 1 ∧
    (if a / M < b / M + c then 1 else 0) = if decide (a < b) = true then 1 else 0 := by
  rw [MM_eq, M_eq] at *
  have hc' : (c = 1 ∧ a % 18446744073709551616 < b % 18446744073709551616) ∨ (c = 0 ∧ b % 18446744073709551616 ≤ a % 18446744073709551616) := by
    subst hc; split <;> omega
  clear hc
  refine ⟨by omega, by omega, by omega, ?_⟩
  by_cases h : a < b
  · rw [if_pos (show decide (a < b) = true from decide_eq_true h), if_pos (by omega)]
  · rw [if_neg (show ¬ (decide (a < b) = true) by simpa using h), if_neg (by omega)]

theorem sub_any (a b : Nat) (ha : a < MM) (hb : b < MM) (w : World) :
    Calls Try.prog 22 #[W a, W b] w fun e w' => e = .returned (.tuple #[W ((a + MM - b) % MM), .bool (decide (a < b))]) ∧ Below w.heap.size w w' := by
  obtain ⟨h1, h2, h3, h4⟩ := sub_num a b ha hb _ rfl
  have h := sub_walk (a / M) (a % M) (b / M) (b % M) _ _ _ _ _ w (sub64_call (a % M) (b % M) 0 (by omega)) (sub64_call (a / M) (b / M) _ h3) (beq_one _ _ h4)
  rw [h1, h2] at h
  exact h

theorem as_any (n : Nat) (w : World) :
    Calls Try.prog 21 #[W n] w fun e w' => e = .returned (W n) ∧ Below w.heap.size w w' := by
  rw [W]
  generalize n / M = h
  generalize n % M = l
  go_enter Try.func21, Try.ntmps21
  go_wp2
  refine bodyPost_ret (v := wv h l) (by simp [results, Try.results21, go_sem]) rfl ⟨rfl, ?_⟩
  exact ((Below.refl _ _).alloc (Nat.le_refl _) _).alloc (by simp) _

theorem of_any (n : Nat) (hn : n < M) (w : World) :
    Calls Try.prog 27 #[.int .u64 n] w fun e w' => e = .returned (W n) ∧ Below w.heap.size w w' := by
  have e : W n = wv 0 n := by rw [wv_W 0 n hn, Nat.zero_mul, Nat.zero_add]
  rw [e]
  clear e hn
  go_enter Try.func27, Try.ntmps27
  go_wp2
  refine bodyPost_ret (v := wv 0 n) (by simp [results, Try.results27, go_sem]) rfl ⟨rfl, ?_⟩
  exact (Below.refl _ _).alloc (Nat.le_refl _) _
end Go.Proofs.Ytcaeaepnobbjlaa
