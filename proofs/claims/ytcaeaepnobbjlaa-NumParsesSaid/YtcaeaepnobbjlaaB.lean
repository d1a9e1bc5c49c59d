import Derived.Test.YtcaeaepnobbjlaaA
import Derived.Deep.RegionHeld3
import Derived.Lib.Mul64
import Derived.Laws.Rows
import Derived.Laws.Bits64b
import Derived.Laws.BitsLemmas
namespace Go.Proofs.Ytcaeaepnobbjlaa
set_option linter.unusedVariables false
set_option linter.unusedSimpArgs false
open Go.RowKit

theorem isNaN_any (a : Int) (w : World) : Calls Try.prog 82 #[.int .u64 a] w fun e w' => e = .returned (.bool false) ∧ w = w' := by
  go_enter Try.func82, Try.ntmps82
  go_wp2
  go_ret
  exact ⟨by simp, rfl⟩

/-- Which of two numbers is less. -/
def cmpI (a b : Nat) : Int := if a < b then -1 else if b < a then 1 else 0

set_option maxHeartbeats 400000 in
theorem compare_any (a b : Nat) (w : World) : Calls Try.prog 74 #[.int .u64 a, .int .u64 b] w fun e w' => e = .returned (.int .i64 (cmpI a b)) ∧ w = w' := by
  go_enter Try.func74, Try.ntmps74
  go_wp2_with (first | (go_at_call 82; refine (isNaN_any _ _).mono ?_; rintro e w' ⟨rfl, rfl⟩))
  all_goals go_ret
  · rename_i h
    exact ⟨by rw [cmpI, if_pos h]; rfl, rfl⟩
  · rename_i h1 _ _ h
    exact ⟨by rw [cmpI, if_neg h1, if_pos h]; rfl, rfl⟩
  · rename_i h1 h
    exact ⟨by rw [cmpI, if_neg h1, if_neg h]; rfl, rfl⟩

def orI (p q : Int) : Int := if p = 0 then q else p

/-- cmp.Or of two numbers that lie in a slice's block. -/
theorem or_any (p q : Int) (w : World) (b : Nat) (h0 : w.cell? ⟨b, 0, none⟩ = some (.int .i64 p)) (h1 : w.cell? ⟨b, 0 + 1, none⟩ = some (.int .i64 q)) :
    Calls Try.prog 73 #[.slice (some ⟨b, 0, none⟩) 2 2] w fun e w' => e = .returned (.int .i64 (orI p q)) ∧ w = w' := by
  go_enter Try.func73, Try.ntmps73
  go_wp2
  go_loop [8] (fun i => i = .int .i64 0 ∨ (i = .int .i64 1 ∧ p = 0) ∨ (i = .int .i64 2 ∧ p = 0 ∧ q = 0)) (fun i => (2 - intOf i).toNat)
  case atStart => exact .inl rfl
  case round =>
    rcases hrel with rfl | ⟨rfl, hp⟩ | ⟨rfl, hp, hq⟩
    · by_cases hp : p = 0
      · have HP := Lib.hid hp
        have e : (p != 0) = false := by simp [hp]
        clear hp
        go_wp2
        go_round
        case rel => exact .inr (.inl ⟨rfl, HP.out⟩)
        case measure => simp [intOf]
      · have e : (p != 0) = true := by simp [hp]
        have R : Hid (orI p q = p) := if_neg hp
        clear hp
        go_wp2
        go_ret
        exact ⟨by rw [R.out]; rfl, rfl⟩
    · have HP := Lib.hid hp
      have R : Hid (orI p q = q) := if_pos hp
      by_cases hq : q = 0
      · have HQ := Lib.hid hq
        have e : (q != 0) = false := by simp [hq]
        clear hq hp
        go_wp2
        go_round
        case rel => exact .inr (.inr ⟨rfl, HP.out, HQ.out⟩)
        case measure => simp [intOf]
      · have e : (q != 0) = true := by simp [hq]
        clear hp hq
        go_wp2
        go_ret
        exact ⟨by rw [R.out]; rfl, rfl⟩
    · have R : Hid (orI p q = 0) := by show _ = _; rw [orI, if_pos hp, hq]
      clear hp hq
      go_wp2
      go_ret
      exact ⟨by rw [R.out]; rfl, rfl⟩

theorem cmp_num (a b : Nat) (ha : a < MM) (hb : b < MM) : orI (cmpI (a / M) (b / M)) (cmpI (a % M) (b % M)) = cmpI a b := by
  rw [MM_eq] at *
  simp only [orI, cmpI, M_eq]
  repeat' split
  all_goals first | rfl | omega

theorem below_next {a w w1 : World} (h : Below a.heap.size a w) (hb : Below w.heap.size w w1) : Below a.heap.size a w1 := h.trans (hb.mono h.size)
theorem below_alloc {a w : World} (h : Below a.heap.size a w) (o : Obj) : Below a.heap.size a (w.alloc o) := h.alloc h.size o
theorem two_cells {w : World} {b : Nat} {p q : Value} {t : TypeId} {fr : Nat × Nat} (h : w.heap[b]? = some (.cells #[p, q] t fr)) :
    w.cell? ⟨b, 0, none⟩ = some p ∧ w.cell? ⟨b, 1, none⟩ = some q := by
  constructor <;> (unfold World.cell?; simp only [h]; rfl)
/-- What a block of two cells holds stays, where nothing old has turned. -/
theorem two_keep {w W : World} {b : Nat} {p q : Value} {t : TypeId} {fr : Nat × Nat} (h : w.heap[b]? = some (.cells #[p, q] t fr)) (hb : Below w.heap.size w W) :
    W.cell? ⟨b, 0, none⟩ = some p ∧ W.cell? ⟨b, 1, none⟩ = some q := by
  have hlt : b < w.heap.size := (Array.getElem?_eq_some_iff.mp h).1
  exact two_cells ((hb.block b hlt).trans h)

set_option maxHeartbeats 1000000 in
theorem cmp_walk (ah al bh bl : Nat) (p q r : Int) (w : World) (h1 : cmpI ah bh = p) (h2 : cmpI al bl = q) (h3 : orI p q = r) :
    Calls Try.prog 25 #[wv ah al, wv bh bl] w fun e w' => e = .returned (.int .i64 r) ∧ Below w.heap.size w w' := by
  have H1 : Hid (∀ w, Calls Try.prog 74 #[.int .u64 ah, .int .u64 bh] w fun e w' => e = .returned (.int .i64 p) ∧ w = w') := fun w => by have := compare_any ah bh w; rwa [h1] at this
  have H2 : Hid (∀ w, Calls Try.prog 74 #[.int .u64 al, .int .u64 bl] w fun e w' => e = .returned (.int .i64 q) ∧ w = w') := fun w => by have := compare_any al bl w; rwa [h2] at this
  have H3 := Lib.hid h3
  clear h1 h2 h3
  go_enter Try.func25, Try.ntmps25
  go_wp2_with fail
  have hB : Below w.heap.size w ((w.alloc (.cells #[.int .u64 ah, .int .u64 al] 24)).alloc (.cells #[.int .u64 bh, .int .u64 bl] 24)) := ((Below.refl _ _).alloc (Nat.le_refl _) _).alloc (by simp) _
  have e1 := heap_alloc2_old w (.cells #[.int .u64 ah, .int .u64 al] 24) (.cells #[.int .u64 bh, .int .u64 bl] 24)
  have e2 := heap_alloc2_new w (.cells #[.int .u64 ah, .int .u64 al] 24) (.cells #[.int .u64 bh, .int .u64 bl] 24)
  generalize (w.alloc (.cells #[.int .u64 ah, .int .u64 al] 24)).alloc (.cells #[.int .u64 bh, .int .u64 bl] 24) = w0 at *
  have HK : ∀ W, Below w0.heap.size w0 W → Below w0.heap.size w0 W ∧ (W.cell? ⟨w.heap.size, 0, none⟩ = some (.int .u64 ah) ∧ W.cell? ⟨w.heap.size, 1, none⟩ = some (.int .u64 al)) ∧
      (W.cell? ⟨w.heap.size + 1, 0, none⟩ = some (.int .u64 bh) ∧ W.cell? ⟨w.heap.size + 1, 1, none⟩ = some (.int .u64 bl)) := fun W h => ⟨h, two_keep e1 h, two_keep e2 h⟩
  have HB := Lib.hid hB
  have HK := Lib.hid HK
  clear hB e1 e2
  go_region_held3 (fun W => Below w0.heap.size w0 W ∧ (W.cell? ⟨w.heap.size, 0, none⟩ = some (.int .u64 ah) ∧ W.cell? ⟨w.heap.size, 1, none⟩ = some (.int .u64 al)) ∧
      (W.cell? ⟨w.heap.size + 1, 0, none⟩ = some (.int .u64 bh) ∧ W.cell? ⟨w.heap.size + 1, 1, none⟩ = some (.int .u64 bl)))
    (exact HK.out _ (by first | assumption | exact (Below.refl _ _).drew | exact (below_alloc (Below.refl _ _) _).drew | exact (below_alloc (by assumption) _).drew))
    (first
      | (go_at_call 74; with_reducible refine (H1.out _).mono ?_; rintro e w1 ⟨rfl, rfl⟩)
      | (go_at_call 74; with_reducible refine (H2.out _).mono ?_; rintro e w1 ⟨rfl, rfl⟩)
      | (go_at_call 73; refine (or_any p q (w0.alloc (.cells #[.int .i64 p, .int .i64 q] 3)).drew w0.heap.size (two_cells (w := (w0.alloc (.cells #[.int .i64 p, .int .i64 q] 3)).drew) (heap_alloc_new w0 _)).1 (two_cells (w := (w0.alloc (.cells #[.int .i64 p, .int .i64 q] 3)).drew) (heap_alloc_new w0 _)).2).mono ?_; rintro e w1 ⟨rfl, rfl⟩))
  go_wp2
  go_ret
  exact ⟨by rw [H3.out]; rfl, HB.out.trans (((below_alloc (Below.refl _ _) _).drew).mono HB.out.size)⟩

theorem cmp_any (a b : Nat) (ha : a < MM) (hb : b < MM) (w : World) :
    Calls Try.prog 25 #[W a, W b] w fun e w' => e = .returned (.int .i64 (cmpI a b)) ∧ Below w.heap.size w w' :=
  cmp_walk (a / M) (a % M) (b / M) (b % M) _ _ _ w rfl rfl (cmp_num a b ha hb)

theorem low32 (a : Nat) (ha : a < 18446744073709551616) : bits .and .u64 (a : Int) 4294967295 = ((a % 4294967296 : Nat) : Int) := by
  have e : a &&& 4294967295 = a % 4294967296 := Nat.and_two_pow_sub_one_eq_mod a 32
  have h := bits_and_u64_nat a 4294967295 ha (by omega)
  rwa [e] at h
theorem high32 (a : Nat) : (a : Int) / 4294967296 = ((a / 4294967296 : Nat) : Int) := by omega
theorem cast_mul (a b : Nat) : (a : Int) * (b : Int) = ((a * b : Nat) : Int) := (Int.natCast_mul a b).symm
theorem cast_add (a b : Nat) : (a : Int) + (b : Int) = ((a + b : Nat) : Int) := (Int.natCast_add a b).symm
theorem wrap_in (a : Nat) (ha : a < 18446744073709551616) : IntKind.u64.wrap (a : Int) = (a : Int) := by rw [IntKind.wrap_u64]; omega
theorem wrap_mod (a : Nat) : IntKind.u64.wrap (a : Int) = ((a % 18446744073709551616 : Nat) : Int) := by rw [IntKind.wrap_u64]; omega

/-- The school's product of halves, as the code has it. -/
def hiOf (x y x1 x0 y1 y0 : Int) : Int :=
  IntKind.u64.wrap (IntKind.u64.wrap (IntKind.u64.wrap (x1 * y1) + IntKind.u64.wrap (IntKind.u64.wrap (x1 * y0) + IntKind.u64.wrap (x0 * y0) / 4294967296) / 4294967296) +
    IntKind.u64.wrap (bits .and .u64 (IntKind.u64.wrap (IntKind.u64.wrap (x1 * y0) + IntKind.u64.wrap (x0 * y0) / 4294967296)) 4294967295 + IntKind.u64.wrap (x0 * y1)) / 4294967296)

theorem hiOf_eq (x y : Nat) (hx : x < 18446744073709551616) (hy : y < 18446744073709551616) :
    hiOf x y ((x : Int) / 4294967296) (bits .and .u64 (x : Int) 4294967295) ((y : Int) / 4294967296) (bits .and .u64 (y : Int) 4294967295) = ((x * y / 18446744073709551616 : Nat) : Int) := by
  obtain ⟨h00, ht, hw, hhi⟩ := Lib.mul64_hi x y hx hy
  have h11 := Lib.half_mul_le (a := x / 4294967296) (b := y / 4294967296) (by omega) (by omega)
  have h10 := Lib.half_mul_le (a := x / 4294967296) (b := y % 4294967296) (by omega) (by omega)
  have h01 := Lib.half_mul_le (a := x % 4294967296) (b := y / 4294967296) (by omega) (by omega)
  rw [hiOf, low32 x hx, low32 y hy, high32, high32, ← hhi]
  clear hhi
  generalize x / 4294967296 = x1 at *
  generalize x % 4294967296 = x0 at *
  generalize y / 4294967296 = y1 at *
  generalize y % 4294967296 = y0 at *
  rw [cast_mul, cast_mul, cast_mul, cast_mul]
  generalize x1 * y1 = a at *
  generalize x1 * y0 = b at *
  generalize x0 * y1 = c at *
  generalize x0 * y0 = d at *
  rw [wrap_in d h00, wrap_in b (by omega), wrap_in a (by omega), wrap_in c (by omega), high32, cast_add, wrap_in _ ht, low32 _ ht, cast_add, wrap_in _ hw, high32, high32, cast_add, wrap_in _ (by omega), cast_add, wrap_in _ (by omega)]

theorem loOf_eq (x y : Nat) : IntKind.u64.wrap ((x : Int) * y) = ((x * y % 18446744073709551616 : Nat) : Int) := by rw [cast_mul, wrap_mod]

set_option maxHeartbeats 1000000 in
theorem mul64_walk (x y : Nat) (r s : Nat) (h1 : hiOf x y ((x : Int) / 4294967296) (bits .and .u64 (x : Int) 4294967295) ((y : Int) / 4294967296) (bits .and .u64 (y : Int) 4294967295) = r)
    (h2 : IntKind.u64.wrap ((x : Int) * y) = s) (w : World) :
    Calls Try.prog 75 #[.int .u64 x, .int .u64 y] w fun e w' => e = .returned (.tuple #[.int .u64 r, .int .u64 s]) ∧ w = w' := by
  have H1 := Lib.hid h1
  have H2 := Lib.hid h2
  clear h1 h2
  go_enter Try.func75, Try.ntmps75
  go_wp2
  go_ret2
  exact ⟨by rw [← H1.out, ← H2.out]; rfl, rfl⟩

theorem mul_num (x y : Nat) : wv (x * y / 18446744073709551616) (x * y % 18446744073709551616) = W (x * y) := rfl

set_option maxHeartbeats 1000000 in
theorem mul_any (x y : Nat) (hx : x < M) (hy : y < M) (w : World) :
    Calls Try.prog 28 #[.int .u64 x, .int .u64 y] w fun e w' => e = .returned (W (x * y)) ∧ Below w.heap.size w w' := by
  have h := fun w => mul64_walk x y _ _ (hiOf_eq x y hx hy) (loOf_eq x y) w
  rw [← mul_num]
  generalize x * y / 18446744073709551616 = p at *
  generalize x * y % 18446744073709551616 = q at *
  have H := Lib.hid h
  clear h hx hy
  go_enter Try.func28, Try.ntmps28
  go_wp2_with (go_at_call 75; with_reducible refine (H.out _).mono ?_; rintro e w1 ⟨rfl, rfl⟩)
  refine bodyPost_ret (v := wv p q) (by simp [results, Try.results28, go_sem]) rfl ⟨rfl, ?_⟩
  exact (Below.refl _ _).alloc (Nat.le_refl _) _

end Go.Proofs.Ytcaeaepnobbjlaa
