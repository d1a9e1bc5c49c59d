import Derived.Test.YtcaeaepnobbjlaaXf
namespace Go.Proofs.Ytcaeaepnobbjlaa
set_option linter.unusedVariables false
set_option linter.unusedSimpArgs false
open Go.RowKit

/-- The least x with a * n ≤ b * x. -/
def ceilN (a b n : Nat) : Nat := (a * n + (b - 1)) / b
def leastN (a b : Int) (n : Nat) : Nat := if a < 1 ∨ b < a then 0 else ceilN a.toNat b.toNat n
theorem ceil_iff (a b n x : Nat) (hb : 1 ≤ b) : a * n ≤ b * x ↔ ceilN a b n ≤ x := by
  unfold ceilN
  rw [Nat.div_le_iff_le_mul_add_pred (by omega)]
  omega
theorem ceil_le (a b n : Nat) (ha : a ≤ b) (hb : 1 ≤ b) : ceilN a b n ≤ n := (ceil_iff a b n n hb).1 (Nat.mul_le_mul_right _ ha)
theorem ceil_div (a b n : Nat) (hb : 1 ≤ b) : ceilN a b n = if 0 < a * n % b then a * n / b + 1 else a * n / b := by
  have h := Nat.div_add_mod (a * n) b
  have hm : a * n % b < b := Nat.mod_lt _ hb
  generalize a * n / b = q at *
  generalize a * n % b = r at *
  by_cases c : 0 < r
  · rw [if_pos c]
    refine Nat.le_antisymm ((ceil_iff a b n _ hb).1 ?_) ?_
    · rw [Nat.mul_add, Nat.mul_one]; omega
    · refine Nat.lt_of_not_le fun hle => ?_
      have := (ceil_iff a b n q hb).2 hle
      omega
  · rw [if_neg c]
    refine Nat.le_antisymm ((ceil_iff a b n _ hb).1 (by omega)) ?_
    refine Decidable.byContradiction fun hle => ?_
    have h1 := (ceil_iff a b n (q - 1) hb).2 (by omega)
    have h2 : b * (q - 1) + b = b * q := by
      obtain ⟨x, rfl⟩ : ∃ x, q = x + 1 := ⟨q - 1, by omega⟩
      rw [Nat.add_sub_cancel, Nat.mul_add, Nat.mul_one]
    omega

theorem least_any (a b : Int) (ha : a ≤ 9223372036854775807) (hb : b ≤ 9223372036854775807) (n : Nat) (hn : n < M) (w : World) :
    Calls Try.prog 61 #[.int .i64 a, .int .i64 b, .int .u64 n] w fun e w' => e = .returned (.int .u64 (leastN a b n)) ∧ Below w.heap.size w w' := by
  unfold leastN
  by_cases h : a < 1 ∨ b < a
  · rw [if_pos h]; exact least_zero a b n h w
  · rw [if_neg h]
    obtain ⟨A, rfl⟩ := Int.eq_ofNat_of_zero_le (show 0 ≤ a by omega)
    obtain ⟨B, rfl⟩ := Int.eq_ofNat_of_zero_le (show 0 ≤ b by omega)
    rw [Int.toNat_natCast, Int.toNat_natCast]
    have lA : A < M := by rw [M_eq]; omega
    have lB : B < M := by rw [M_eq]; omega
    have hMM : M * M = MM := MM_MM
    have h1 : A * n < MM := mul_lt A n lA hn
    have hq : A * n / B ≤ n := by
      refine Nat.le_trans (Nat.div_le_div_right (Nat.mul_le_mul_right n (show A ≤ B by omega))) ?_
      rw [Nat.mul_div_cancel_left _ (by omega)]; exact Nat.le_refl _
    have hqM : A * n / B < MM := Nat.lt_of_le_of_lt (Nat.div_le_self _ _) h1
    have h1M : 1 < MM := by decide
    have c2 := fun w => div_any (A * n) B h1 lB w
    have c4 := fun w => add_any (A * n / B) 1 hqM h1M w
    rw [if_neg (by omega), if_neg (by omega)] at c2
    rw [W1] at c4
    refine least_walk A B n (A * n / M) (A * n % M) (A * n / B / M) (A * n / B % M) (A * n % B) ((A * n / B + 1) % MM / M) ((A * n / B + 1) % MM % M) (ceilN A B n) _ (by omega) (by omega) (wrapq A lA) (wrapq B lB)
      (fun w => mul_any A n lA hn w) c2 c4 ?_ w
    have hc := ceil_div A B n (by omega)
    have hle := ceil_le A B n (by omega) (by omega)
    by_cases hr : 0 < A * n % B
    · rw [if_pos hr] at hc
      refine Or.inl ⟨hr, ?_⟩
      rw [hc, Nat.mod_eq_of_lt (show A * n / B + 1 < MM by rw [← hMM]; have := Nat.le_mul_of_pos_right M (show 0 < M by omega); omega), Nat.mod_eq_of_lt (by omega)]
    · rw [if_neg hr] at hc
      refine Or.inr ⟨by omega, ?_⟩
      rw [hc, Nat.mod_eq_of_lt (by omega)]

set_option maxRecDepth 100000 in
theorem refleast_zero (a b : Int) (n : Nat) (h : a < 1 ∨ b < a) (w : World) : Calls Try.prog 62 #[.int .i64 a, .int .i64 b, .int .u64 n] w fun e w' => e = .returned (.int .u64 (0 : Nat)) ∧ Below w.heap.size w w' := by
  by_cases h1 : a < 1
  · have hd : decide (a < 1) = true := decide_eq_true h1
    clear h h1
    go_enter Try.func62, Try.ntmps62
    go_wp2
    go_ret
    exact ⟨rfl, Below.refl _ _⟩
  · have h2 : b < a := by omega
    have hd : decide (a < 1) = false := decide_eq_false (by omega)
    have he : decide (b < a) = true := decide_eq_true h2
    clear h h1 h2
    go_enter Try.func62, Try.ntmps62
    go_wp2
    go_ret
    exact ⟨rfl, Below.refl _ _⟩
set_option maxRecDepth 100000 in
set_option maxHeartbeats 4000000 in
theorem refleast_walk (A B n L : Nat) (hn : n < 18446744073709551616) (f : Nat → Bool) (hA : 1 ≤ A) (hB : A ≤ B) (hL : L ≤ n)
    (c : ∀ (x : Nat), x ≤ n → ∀ w, Calls Try.prog 60 #[.int .i64 A, .int .i64 B, .int .u64 x, .int .u64 n] w fun e w' => e = .returned (.bool (decide (L ≤ x))) ∧ Below w.heap.size w w') (w : World) :
    Calls Try.prog 62 #[.int .i64 A, .int .i64 B, .int .u64 n] w fun e w' => e = .returned (.int .u64 L) ∧ Below w.heap.size w w' := by
  have hd : decide ((A : Int) < 1) = false := decide_eq_false (by omega)
  have he : decide (B < A) = false := decide_eq_false (by omega)
  have C := Lib.hid c
  have HL := Lib.hid hL
  have HN := Lib.hid hn
  clear c hA hB hL hn
  go_enter Try.func62, Try.ntmps62
  go_wp2_with fail
  go_loopw [7, 8] (fun x y wr => ∃ l h : Nat, x = .int .u64 (l : Int) ∧ y = .int .u64 (h : Int) ∧ l ≤ L ∧ L ≤ h ∧ h ≤ n ∧ Below w.heap.size w wr) (fun x y _ => (intOf y - intOf x).toNat)
  case atStart => exact ⟨0, n, rfl, rfl, Nat.zero_le _, HL.out, Nat.le_refl _, Below.refl _ _⟩
  case round =>
    obtain ⟨l, h, rfl, rfl, g1, g2, g3, hb⟩ := hrel
    have HB := Lib.hid hb
    have hn := HN.out
    clear hb
    by_cases hlt : l < h
    · have d1 : decide (l < h) = true := decide_eq_true hlt
      obtain ⟨m, hm⟩ : ∃ m, m = l + (h - l) / 2 := ⟨_, rfl⟩
      have e1 : IntKind.u64.wrap ((h : Int) - l) = ((h - l : Nat) : Int) := by rw [IntKind.wrap_u64]; omega
      have e2 : IntKind.u64.wrap (((h - l : Nat) : Int) / 2) = (((h - l) / 2 : Nat) : Int) := by rw [IntKind.wrap_u64]; omega
      have e2' : ((h - l : Nat) : Int) / 2 = (((h - l) / 2 : Nat) : Int) := by omega
      have e3 : IntKind.u64.wrap ((l : Int) + (((h - l) / 2 : Nat) : Int)) = (m : Int) := by rw [IntKind.wrap_u64]; omega
      have e4 : IntKind.u64.wrap ((m : Int) + 1) = ((m + 1 : Nat) : Int) := by rw [IntKind.wrap_u64]; omega
      have e5 : IntKind.u64.wrap (((h - l) / 2 : Nat) : Int) = (((h - l) / 2 : Nat) : Int) := by rw [IntKind.wrap_u64]; omega
      have HM : Hid (l ≤ m ∧ m < h ∧ m ≤ n) := ⟨by omega, by omega, by omega⟩
      have HG : Hid (l ≤ L ∧ L ≤ h ∧ h ≤ n) := ⟨g1, g2, g3⟩
      have CM := Lib.hid (C.out m HM.out.2.2)
      generalize (h - l) / 2 = z at *
      generalize h - l = y at *
      clear hm hlt g1 g2 g3 hn
      by_cases hx : L ≤ m
      · have hx2 : Hid (L ≤ m) := hx
        rw [show decide (L ≤ m) = true from decide_eq_true hx] at CM
        clear hx
        go_wp2_with (first
          | (go_at_call 60; (with_reducible refine (CM.out _).mono ?_); rintro e w1 ⟨rfl, hb1⟩; have HB1 : Hid (Below w.heap.size w w1) := below_next HB.out hb1; clear hb1))
        go_roundw
        case rel => exact ⟨l, m, rfl, rfl, HG.out.1, hx2.out, HM.out.2.2, HB1.out⟩
        case measure => have := HM.out; have := HG.out; simp [intOf]; omega
      · have hx2 : Hid (¬ L ≤ m) := hx
        rw [show decide (L ≤ m) = false from decide_eq_false hx] at CM
        clear hx
        go_wp2_with (first
          | (go_at_call 60; (with_reducible refine (CM.out _).mono ?_); rintro e w1 ⟨rfl, hb1⟩; have HB1 : Hid (Below w.heap.size w w1) := below_next HB.out hb1; clear hb1))
        go_roundw
        case rel => exact ⟨m + 1, h, rfl, rfl, by have := hx2.out; omega, HG.out.2.1, HG.out.2.2, HB1.out⟩
        case measure => have := HM.out; have := HG.out; simp [intOf]; omega
    · have d1 : decide (l < h) = false := decide_eq_false hlt
      have HE : Hid (l = L) := by show _ = _; omega
      clear hlt g1 g2 g3 hn
      go_wp2_with fail
      go_ret
      exact ⟨by rw [← HE.out]; rfl, HB.out⟩
theorem refleast_any (a b : Int) (ha : a ≤ 9223372036854775807) (hb : b ≤ 9223372036854775807) (n : Nat) (hn : n < M) (w : World) :
    Calls Try.prog 62 #[.int .i64 a, .int .i64 b, .int .u64 n] w fun e w' => e = .returned (.int .u64 (leastN a b n)) ∧ Below w.heap.size w w' := by
  unfold leastN
  by_cases h : a < 1 ∨ b < a
  · rw [if_pos h]; exact refleast_zero a b n h w
  · rw [if_neg h]
    obtain ⟨A, rfl⟩ := Int.eq_ofNat_of_zero_le (show 0 ≤ a by omega)
    obtain ⟨B, rfl⟩ := Int.eq_ofNat_of_zero_le (show 0 ≤ b by omega)
    rw [Int.toNat_natCast, Int.toNat_natCast]
    refine refleast_walk A B n (ceilN A B n) (by rw [M_eq] at hn; exact hn) (fun _ => true) (by omega) (by omega) (ceil_le A B n (by omega) (by omega)) (fun x hx w => ?_) w
    have hc := refheavy_any (A : Int) (B : Int) ha hb x n (by omega) hn w
    have e : heavyB (A : Int) (B : Int) x n = decide (ceilN A B n ≤ x) := by
      rw [heavyB, decide_eq_true (show (1 : Int) ≤ A by omega), decide_eq_true (show (1 : Int) ≤ B by omega), Int.toNat_natCast, Int.toNat_natCast]
      simp only [Bool.true_and]
      exact decide_eq_decide.2 (ceil_iff A B n x (by omega))
    rw [e] at hc
    exact hc

/-- A number with something added and taken away, within bounds. -/
def clipN (n p m : Nat) : Nat := if m ≤ p then n else if n ≤ m - p then 0 else n - (m - p)

set_option maxRecDepth 100000 in
set_option maxHeartbeats 4000000 in
theorem clip_walk (n ph pl mh ml dh dl r nh nl : Nat) (u : Bool) (k : Int)
    (c1 : ∀ w, Calls Try.prog 22 #[wv mh ml, wv ph pl] w fun e w' => e = .returned (.tuple #[wv dh dl, .bool u]) ∧ Below w.heap.size w w')
    (c2 : ∀ w, Calls Try.prog 27 #[.int .u64 n] w fun e w' => e = .returned (wv nh nl) ∧ Below w.heap.size w w')
    (c3 : ∀ w, Calls Try.prog 25 #[wv dh dl, wv nh nl] w fun e w' => e = .returned (.int .i64 k) ∧ Below w.heap.size w w')
    (hr : (u = true ∧ r = n) ∨ (u = false ∧ decide (0 ≤ k) = true ∧ r = 0) ∨ (u = false ∧ decide (0 ≤ k) = false ∧ IntKind.u64.wrap ((n : Int) - dl) = r)) (w : World) :
    Calls Try.prog 67 #[.int .u64 n, wv ph pl, wv mh ml] w fun e w' => e = .returned (.int .u64 r) ∧ Below w.heap.size w w' := by
  have C1 := Lib.hid c1
  have C2 := Lib.hid c2
  have C3 := Lib.hid c3
  clear c1 c2 c3
  rcases hr with ⟨hu, hr⟩ | ⟨hu, hk, hr⟩ | ⟨hu, hk, hr⟩ <;> subst u
  · subst r
    go_enter Try.func67, Try.ntmps67
    go_wp2_with fail
    have hX := ((Boxes.nil w).new 24 ph pl).new 24 mh ml
    simp only [size_alloc] at hX
    generalize (w.alloc (.cells #[.int .u64 ph, .int .u64 pl] 24)).alloc (.cells #[.int .u64 mh, .int .u64 ml] 24) = w0 at *
    have HX0 : Hid (Boxes w w0 [(w.heap.size + 1, 24, mh, ml), (w.heap.size, 24, ph, pl)]) := hX
    clear hX
    obtain ⟨⟨r0, s0⟩, -, -⟩ := HX0.out.at (w.heap.size + 1) 24 mh ml (by simp)
    obtain ⟨⟨r1, s1⟩, -, -⟩ := HX0.out.at (w.heap.size) 24 ph pl (by simp)
    go_wp2_with (first
      | (go_at_call 22; with_reducible refine (C1.out _).mono ?_; rintro e v1 ⟨rfl, hb1⟩
         have HY1 := Lib.hid (HX0.out.next hb1)
         clear hb1 r0 s0 r1 s1 HX0)
      | (obtain ⟨w1, hw⟩ : ∃ w1, v1.alloc (.cells #[.int .u64 dh, .int .u64 dl] 24) = w1 := ⟨_, rfl⟩
         rewrite [hw]
         have HX1 : Hid (Boxes w w1 [(v1.heap.size, 24, dh, dl), (w.heap.size + 1, 24, mh, ml), (w.heap.size, 24, ph, pl)]) := by rewrite [← hw]; exact HY1.out.new 24 dh dl
         clear hw HY1
         generalize v1.heap.size = c1 at *
         obtain ⟨⟨r0, s0⟩, -, -⟩ := HX1.out.at (c1) 24 dh dl (by simp)
         obtain ⟨⟨r1, s1⟩, -, -⟩ := HX1.out.at (w.heap.size + 1) 24 mh ml (by simp)
         obtain ⟨⟨r2, s2⟩, -, -⟩ := HX1.out.at (w.heap.size) 24 ph pl (by simp)))
    go_ret
    exact ⟨rfl, HX1.out.below⟩
  · subst r
    go_enter Try.func67, Try.ntmps67
    go_wp2_with fail
    have hX := ((Boxes.nil w).new 24 ph pl).new 24 mh ml
    simp only [size_alloc] at hX
    generalize (w.alloc (.cells #[.int .u64 ph, .int .u64 pl] 24)).alloc (.cells #[.int .u64 mh, .int .u64 ml] 24) = w0 at *
    have HX0 : Hid (Boxes w w0 [(w.heap.size + 1, 24, mh, ml), (w.heap.size, 24, ph, pl)]) := hX
    clear hX
    obtain ⟨⟨r0, s0⟩, -, -⟩ := HX0.out.at (w.heap.size + 1) 24 mh ml (by simp)
    obtain ⟨⟨r1, s1⟩, -, -⟩ := HX0.out.at (w.heap.size) 24 ph pl (by simp)
    go_wp2_with (first
      | (go_at_call 22; with_reducible refine (C1.out _).mono ?_; rintro e v1 ⟨rfl, hb1⟩
         have HY1 := Lib.hid (HX0.out.next hb1)
         clear hb1 r0 s0 r1 s1 HX0)
      | (obtain ⟨w1, hw⟩ : ∃ w1, v1.alloc (.cells #[.int .u64 dh, .int .u64 dl] 24) = w1 := ⟨_, rfl⟩
         rewrite [hw]
         have HX1 : Hid (Boxes w w1 [(v1.heap.size, 24, dh, dl), (w.heap.size + 1, 24, mh, ml), (w.heap.size, 24, ph, pl)]) := by rewrite [← hw]; exact HY1.out.new 24 dh dl
         clear hw HY1
         generalize v1.heap.size = c1 at *
         obtain ⟨⟨r0, s0⟩, -, -⟩ := HX1.out.at (c1) 24 dh dl (by simp)
         obtain ⟨⟨r1, s1⟩, -, -⟩ := HX1.out.at (w.heap.size + 1) 24 mh ml (by simp)
         obtain ⟨⟨r2, s2⟩, -, -⟩ := HX1.out.at (w.heap.size) 24 ph pl (by simp)))
    have HNk : ∀ W, Boxes w W [(c1, 24, dh, dl), (w.heap.size + 1, 24, mh, ml), (w.heap.size, 24, ph, pl)] → (Boxes w W [(c1, 24, dh, dl), (w.heap.size + 1, 24, mh, ml), (w.heap.size, 24, ph, pl)] ∧ (W.cell? ⟨c1, 0, none⟩ = some (.int .u64 dh) ∧ W.cell? ⟨c1, 1, none⟩ = some (.int .u64 dl)) ∧ (W.cell? ⟨w.heap.size + 1, 0, none⟩ = some (.int .u64 mh) ∧ W.cell? ⟨w.heap.size + 1, 1, none⟩ = some (.int .u64 ml)) ∧ (W.cell? ⟨w.heap.size, 0, none⟩ = some (.int .u64 ph) ∧ W.cell? ⟨w.heap.size, 1, none⟩ = some (.int .u64 pl))) := fun W h => ⟨h, two_cells (h.all (c1, 24, dh, dl) (by simp)), two_cells (h.all (w.heap.size + 1, 24, mh, ml) (by simp)), two_cells (h.all (w.heap.size, 24, ph, pl) (by simp))⟩
    have HN : Hid (∀ W V, (Boxes w W [(c1, 24, dh, dl), (w.heap.size + 1, 24, mh, ml), (w.heap.size, 24, ph, pl)] ∧ (W.cell? ⟨c1, 0, none⟩ = some (.int .u64 dh) ∧ W.cell? ⟨c1, 1, none⟩ = some (.int .u64 dl)) ∧ (W.cell? ⟨w.heap.size + 1, 0, none⟩ = some (.int .u64 mh) ∧ W.cell? ⟨w.heap.size + 1, 1, none⟩ = some (.int .u64 ml)) ∧ (W.cell? ⟨w.heap.size, 0, none⟩ = some (.int .u64 ph) ∧ W.cell? ⟨w.heap.size, 1, none⟩ = some (.int .u64 pl))) → Below W.heap.size W V → (Boxes w V [(c1, 24, dh, dl), (w.heap.size + 1, 24, mh, ml), (w.heap.size, 24, ph, pl)] ∧ (V.cell? ⟨c1, 0, none⟩ = some (.int .u64 dh) ∧ V.cell? ⟨c1, 1, none⟩ = some (.int .u64 dl)) ∧ (V.cell? ⟨w.heap.size + 1, 0, none⟩ = some (.int .u64 mh) ∧ V.cell? ⟨w.heap.size + 1, 1, none⟩ = some (.int .u64 ml)) ∧ (V.cell? ⟨w.heap.size, 0, none⟩ = some (.int .u64 ph) ∧ V.cell? ⟨w.heap.size, 1, none⟩ = some (.int .u64 pl)))) := fun W V h hb => HNk _ (h.1.next hb)
    have HS0 : Hid (Boxes w w1.drew [(c1, 24, dh, dl), (w.heap.size + 1, 24, mh, ml), (w.heap.size, 24, ph, pl)] ∧ (w1.drew.cell? ⟨c1, 0, none⟩ = some (.int .u64 dh) ∧ w1.drew.cell? ⟨c1, 1, none⟩ = some (.int .u64 dl)) ∧ (w1.drew.cell? ⟨w.heap.size + 1, 0, none⟩ = some (.int .u64 mh) ∧ w1.drew.cell? ⟨w.heap.size + 1, 1, none⟩ = some (.int .u64 ml)) ∧ (w1.drew.cell? ⟨w.heap.size, 0, none⟩ = some (.int .u64 ph) ∧ w1.drew.cell? ⟨w.heap.size, 1, none⟩ = some (.int .u64 pl))) := HNk _ (HX1.out.next ⟨rfl, rfl, rfl, Nat.le_refl _, fun _ _ => rfl⟩)
    have HF : Hid (∀ W, (Boxes w W [(c1, 24, dh, dl), (w.heap.size + 1, 24, mh, ml), (w.heap.size, 24, ph, pl)] ∧ (W.cell? ⟨c1, 0, none⟩ = some (.int .u64 dh) ∧ W.cell? ⟨c1, 1, none⟩ = some (.int .u64 dl)) ∧ (W.cell? ⟨w.heap.size + 1, 0, none⟩ = some (.int .u64 mh) ∧ W.cell? ⟨w.heap.size + 1, 1, none⟩ = some (.int .u64 ml)) ∧ (W.cell? ⟨w.heap.size, 0, none⟩ = some (.int .u64 ph) ∧ W.cell? ⟨w.heap.size, 1, none⟩ = some (.int .u64 pl))) → Below w.heap.size w W) := fun W h => h.1.below
    clear HNk r0 s0 r1 s1 r2 s2
    go_region_held3 (fun W => Boxes w W [(c1, 24, dh, dl), (w.heap.size + 1, 24, mh, ml), (w.heap.size, 24, ph, pl)] ∧ (W.cell? ⟨c1, 0, none⟩ = some (.int .u64 dh) ∧ W.cell? ⟨c1, 1, none⟩ = some (.int .u64 dl)) ∧ (W.cell? ⟨w.heap.size + 1, 0, none⟩ = some (.int .u64 mh) ∧ W.cell? ⟨w.heap.size + 1, 1, none⟩ = some (.int .u64 ml)) ∧ (W.cell? ⟨w.heap.size, 0, none⟩ = some (.int .u64 ph) ∧ W.cell? ⟨w.heap.size, 1, none⟩ = some (.int .u64 pl))) (first | exact HS0.out | assumption)
      (first
        | (go_at_call 27; with_reducible refine (C2.out _).mono ?_; rintro e w1 ⟨rfl, hb1⟩; have hS1 := HN.out _ _ (by assumption) hb1; clear hb1)
        | (go_at_call 25; with_reducible refine (C3.out _).mono ?_; rintro e w1 ⟨rfl, hb1⟩; have hS1 := HN.out _ _ (by assumption) hb1; clear hb1))
    all_goals go_wp2_with fail
    all_goals go_ret
    all_goals exact ⟨rfl, HF.out _ (by assumption)⟩
  · have hz := hr
    go_enter Try.func67, Try.ntmps67
    go_wp2_with fail
    have hX := ((Boxes.nil w).new 24 ph pl).new 24 mh ml
    simp only [size_alloc] at hX
    generalize (w.alloc (.cells #[.int .u64 ph, .int .u64 pl] 24)).alloc (.cells #[.int .u64 mh, .int .u64 ml] 24) = w0 at *
    have HX0 : Hid (Boxes w w0 [(w.heap.size + 1, 24, mh, ml), (w.heap.size, 24, ph, pl)]) := hX
    clear hX
    obtain ⟨⟨r0, s0⟩, -, -⟩ := HX0.out.at (w.heap.size + 1) 24 mh ml (by simp)
    obtain ⟨⟨r1, s1⟩, -, -⟩ := HX0.out.at (w.heap.size) 24 ph pl (by simp)
    go_wp2_with (first
      | (go_at_call 22; with_reducible refine (C1.out _).mono ?_; rintro e v1 ⟨rfl, hb1⟩
         have HY1 := Lib.hid (HX0.out.next hb1)
         clear hb1 r0 s0 r1 s1 HX0)
      | (obtain ⟨w1, hw⟩ : ∃ w1, v1.alloc (.cells #[.int .u64 dh, .int .u64 dl] 24) = w1 := ⟨_, rfl⟩
         rewrite [hw]
         have HX1 : Hid (Boxes w w1 [(v1.heap.size, 24, dh, dl), (w.heap.size + 1, 24, mh, ml), (w.heap.size, 24, ph, pl)]) := by rewrite [← hw]; exact HY1.out.new 24 dh dl
         clear hw HY1
         generalize v1.heap.size = c1 at *
         obtain ⟨⟨r0, s0⟩, -, -⟩ := HX1.out.at (c1) 24 dh dl (by simp)
         obtain ⟨⟨r1, s1⟩, -, -⟩ := HX1.out.at (w.heap.size + 1) 24 mh ml (by simp)
         obtain ⟨⟨r2, s2⟩, -, -⟩ := HX1.out.at (w.heap.size) 24 ph pl (by simp)))
    have HNk : ∀ W, Boxes w W [(c1, 24, dh, dl), (w.heap.size + 1, 24, mh, ml), (w.heap.size, 24, ph, pl)] → (Boxes w W [(c1, 24, dh, dl), (w.heap.size + 1, 24, mh, ml), (w.heap.size, 24, ph, pl)] ∧ (W.cell? ⟨c1, 0, none⟩ = some (.int .u64 dh) ∧ W.cell? ⟨c1, 1, none⟩ = some (.int .u64 dl)) ∧ (W.cell? ⟨w.heap.size + 1, 0, none⟩ = some (.int .u64 mh) ∧ W.cell? ⟨w.heap.size + 1, 1, none⟩ = some (.int .u64 ml)) ∧ (W.cell? ⟨w.heap.size, 0, none⟩ = some (.int .u64 ph) ∧ W.cell? ⟨w.heap.size, 1, none⟩ = some (.int .u64 pl))) := fun W h => ⟨h, two_cells (h.all (c1, 24, dh, dl) (by simp)), two_cells (h.all (w.heap.size + 1, 24, mh, ml) (by simp)), two_cells (h.all (w.heap.size, 24, ph, pl) (by simp))⟩
    have HN : Hid (∀ W V, (Boxes w W [(c1, 24, dh, dl), (w.heap.size + 1, 24, mh, ml), (w.heap.size, 24, ph, pl)] ∧ (W.cell? ⟨c1, 0, none⟩ = some (.int .u64 dh) ∧ W.cell? ⟨c1, 1, none⟩ = some (.int .u64 dl)) ∧ (W.cell? ⟨w.heap.size + 1, 0, none⟩ = some (.int .u64 mh) ∧ W.cell? ⟨w.heap.size + 1, 1, none⟩ = some (.int .u64 ml)) ∧ (W.cell? ⟨w.heap.size, 0, none⟩ = some (.int .u64 ph) ∧ W.cell? ⟨w.heap.size, 1, none⟩ = some (.int .u64 pl))) → Below W.heap.size W V → (Boxes w V [(c1, 24, dh, dl), (w.heap.size + 1, 24, mh, ml), (w.heap.size, 24, ph, pl)] ∧ (V.cell? ⟨c1, 0, none⟩ = some (.int .u64 dh) ∧ V.cell? ⟨c1, 1, none⟩ = some (.int .u64 dl)) ∧ (V.cell? ⟨w.heap.size + 1, 0, none⟩ = some (.int .u64 mh) ∧ V.cell? ⟨w.heap.size + 1, 1, none⟩ = some (.int .u64 ml)) ∧ (V.cell? ⟨w.heap.size, 0, none⟩ = some (.int .u64 ph) ∧ V.cell? ⟨w.heap.size, 1, none⟩ = some (.int .u64 pl)))) := fun W V h hb => HNk _ (h.1.next hb)
    have HS0 : Hid (Boxes w w1.drew [(c1, 24, dh, dl), (w.heap.size + 1, 24, mh, ml), (w.heap.size, 24, ph, pl)] ∧ (w1.drew.cell? ⟨c1, 0, none⟩ = some (.int .u64 dh) ∧ w1.drew.cell? ⟨c1, 1, none⟩ = some (.int .u64 dl)) ∧ (w1.drew.cell? ⟨w.heap.size + 1, 0, none⟩ = some (.int .u64 mh) ∧ w1.drew.cell? ⟨w.heap.size + 1, 1, none⟩ = some (.int .u64 ml)) ∧ (w1.drew.cell? ⟨w.heap.size, 0, none⟩ = some (.int .u64 ph) ∧ w1.drew.cell? ⟨w.heap.size, 1, none⟩ = some (.int .u64 pl))) := HNk _ (HX1.out.next ⟨rfl, rfl, rfl, Nat.le_refl _, fun _ _ => rfl⟩)
    have HF : Hid (∀ W, (Boxes w W [(c1, 24, dh, dl), (w.heap.size + 1, 24, mh, ml), (w.heap.size, 24, ph, pl)] ∧ (W.cell? ⟨c1, 0, none⟩ = some (.int .u64 dh) ∧ W.cell? ⟨c1, 1, none⟩ = some (.int .u64 dl)) ∧ (W.cell? ⟨w.heap.size + 1, 0, none⟩ = some (.int .u64 mh) ∧ W.cell? ⟨w.heap.size + 1, 1, none⟩ = some (.int .u64 ml)) ∧ (W.cell? ⟨w.heap.size, 0, none⟩ = some (.int .u64 ph) ∧ W.cell? ⟨w.heap.size, 1, none⟩ = some (.int .u64 pl))) → Below w.heap.size w W) := fun W h => h.1.below
    clear HNk r0 s0 r1 s1 r2 s2
    go_region_held3 (fun W => Boxes w W [(c1, 24, dh, dl), (w.heap.size + 1, 24, mh, ml), (w.heap.size, 24, ph, pl)] ∧ (W.cell? ⟨c1, 0, none⟩ = some (.int .u64 dh) ∧ W.cell? ⟨c1, 1, none⟩ = some (.int .u64 dl)) ∧ (W.cell? ⟨w.heap.size + 1, 0, none⟩ = some (.int .u64 mh) ∧ W.cell? ⟨w.heap.size + 1, 1, none⟩ = some (.int .u64 ml)) ∧ (W.cell? ⟨w.heap.size, 0, none⟩ = some (.int .u64 ph) ∧ W.cell? ⟨w.heap.size, 1, none⟩ = some (.int .u64 pl))) (first | exact HS0.out | assumption)
      (first
        | (go_at_call 27; with_reducible refine (C2.out _).mono ?_; rintro e w1 ⟨rfl, hb1⟩; have hS1 := HN.out _ _ (by assumption) hb1; clear hb1)
        | (go_at_call 25; with_reducible refine (C3.out _).mono ?_; rintro e w1 ⟨rfl, hb1⟩; have hS1 := HN.out _ _ (by assumption) hb1; clear hb1))
    all_goals go_wp2_with fail
    all_goals go_ret
    all_goals exact ⟨rfl, HF.out _ (by assumption)⟩
theorem clip_any (n p m : Nat) (hn : n < M) (hp : p < MM) (hm : m < MM) (w : World) :
    Calls Try.prog 67 #[.int .u64 n, W p, W m] w fun e w' => e = .returned (.int .u64 (clipN n p m)) ∧ Below w.heap.size w w' := by
  have hMM : M ≤ MM := by decide
  refine clip_walk n (p / M) (p % M) (m / M) (m % M) ((m + MM - p) % MM / M) ((m + MM - p) % MM % M) (clipN n p m) (n / M) (n % M) (decide (m < p)) (cmpI ((m + MM - p) % MM) n)
    (fun w => sub_any m p hm hp w) (fun w => of_any n hn w) (fun w => cmp_any _ n (Nat.mod_lt _ (by omega)) (by omega) w) ?_ w
  unfold clipN
  by_cases h : m < p
  · exact Or.inl ⟨decide_eq_true h, if_pos (by omega)⟩
  · have e : (m + MM - p) % MM = m - p := by
      rw [show m + MM - p = (m - p) + MM by omega, Nat.add_mod_right, Nat.mod_eq_of_lt (by omega)]
    rw [e, cmp_ge]
    by_cases h2 : n ≤ m - p
    · refine Or.inr (Or.inl ⟨decide_eq_false h, decide_eq_true h2, ?_⟩)
      by_cases h3 : m ≤ p
      · rw [if_pos h3]; omega
      · rw [if_neg h3, if_pos h2]
    · refine Or.inr (Or.inr ⟨decide_eq_false h, decide_eq_false h2, ?_⟩)
      have e2 : (m - p) % M = m - p := Nat.mod_eq_of_lt (by omega)
      rw [e2]
      have hl : M = 18446744073709551616 := M_eq
      by_cases h3 : m ≤ p
      · rw [if_pos h3, IntKind.wrap_u64]; omega
      · rw [if_neg h3, if_neg h2, IntKind.wrap_u64]; omega

set_option maxRecDepth 100000 in
set_option maxHeartbeats 4000000 in
theorem refclip_walk (n ph pl mh ml dh dl r : Nat) (u : Bool) (k : Int)
    (c1 : ∀ w, Calls Try.prog 26 #[wv ph pl, wv mh ml] w fun e w' => e = .returned (.int .i64 k) ∧ Below w.heap.size w w')
    (c2 : ∀ w, Calls Try.prog 23 #[wv mh ml, wv ph pl] w fun e w' => e = .returned (.tuple #[wv dh dl, .bool u]) ∧ Below w.heap.size w w')
    (hr : (decide (0 ≤ k) = true ∧ r = n) ∨ (decide (0 ≤ k) = false ∧ decide (0 < dh) = true ∧ r = 0) ∨ (decide (0 ≤ k) = false ∧ decide (0 < dh) = false ∧ decide (n ≤ dl) = true ∧ r = 0) ∨
      (decide (0 ≤ k) = false ∧ decide (0 < dh) = false ∧ decide (n ≤ dl) = false ∧ IntKind.u64.wrap ((n : Int) - dl) = r)) (w : World) :
    Calls Try.prog 68 #[.int .u64 n, wv ph pl, wv mh ml] w fun e w' => e = .returned (.int .u64 r) ∧ Below w.heap.size w w' := by
  have C1 := Lib.hid c1
  have C2 := Lib.hid c2
  clear c1 c2
  rcases hr with ⟨hk, hr⟩ | ⟨hk, hd, hr⟩ | ⟨hk, hd, he, hr⟩ | ⟨hk, hd, he, hr⟩
  · subst r
    go_enter Try.func68, Try.ntmps68
    go_wp2_with fail
    have hX := ((Boxes.nil w).new 27 ph pl).new 27 mh ml
    simp only [size_alloc] at hX
    generalize (w.alloc (.cells #[.int .u64 ph, .int .u64 pl] 27)).alloc (.cells #[.int .u64 mh, .int .u64 ml] 27) = w0 at *
    have HX0 : Hid (Boxes w w0 [(w.heap.size + 1, 27, mh, ml), (w.heap.size, 27, ph, pl)]) := hX
    clear hX
    obtain ⟨⟨r0, s0⟩, -, -⟩ := HX0.out.at (w.heap.size + 1) 27 mh ml (by simp)
    obtain ⟨⟨r1, s1⟩, -, -⟩ := HX0.out.at (w.heap.size) 27 ph pl (by simp)
    go_wp2_with (first
      | (go_at_call 26; with_reducible refine (C1.out _).mono ?_; rintro e v1 ⟨rfl, hb1⟩
         have HY1 := Lib.hid (HX0.out.next hb1)
         clear hb1 r0 s0 r1 s1 HX0
         obtain ⟨⟨r0, s0⟩, -, -⟩ := HY1.out.at (w.heap.size + 1) 27 mh ml (by simp)
         obtain ⟨⟨r1, s1⟩, -, -⟩ := HY1.out.at (w.heap.size) 27 ph pl (by simp)))
    go_ret
    exact ⟨rfl, HY1.out.below⟩
  · subst r
    go_enter Try.func68, Try.ntmps68
    go_wp2_with fail
    have hX := ((Boxes.nil w).new 27 ph pl).new 27 mh ml
    simp only [size_alloc] at hX
    generalize (w.alloc (.cells #[.int .u64 ph, .int .u64 pl] 27)).alloc (.cells #[.int .u64 mh, .int .u64 ml] 27) = w0 at *
    have HX0 : Hid (Boxes w w0 [(w.heap.size + 1, 27, mh, ml), (w.heap.size, 27, ph, pl)]) := hX
    clear hX
    obtain ⟨⟨r0, s0⟩, -, -⟩ := HX0.out.at (w.heap.size + 1) 27 mh ml (by simp)
    obtain ⟨⟨r1, s1⟩, -, -⟩ := HX0.out.at (w.heap.size) 27 ph pl (by simp)
    go_wp2_with (first
      | (go_at_call 26; with_reducible refine (C1.out _).mono ?_; rintro e v1 ⟨rfl, hb1⟩
         have HY1 := Lib.hid (HX0.out.next hb1)
         clear hb1 r0 s0 r1 s1 HX0
         obtain ⟨⟨r0, s0⟩, -, -⟩ := HY1.out.at (w.heap.size + 1) 27 mh ml (by simp)
         obtain ⟨⟨r1, s1⟩, -, -⟩ := HY1.out.at (w.heap.size) 27 ph pl (by simp))
      | (go_at_call 23; with_reducible refine (C2.out _).mono ?_; rintro e v2 ⟨rfl, hb1⟩
         have HY2 := Lib.hid (HY1.out.next hb1)
         clear hb1 r0 s0 r1 s1 HY1)
      | (obtain ⟨w2, hw⟩ : ∃ w2, v2.alloc (.cells #[.int .u64 dh, .int .u64 dl] 27) = w2 := ⟨_, rfl⟩
         rewrite [hw]
         have HX2 : Hid (Boxes w w2 [(v2.heap.size, 27, dh, dl), (w.heap.size + 1, 27, mh, ml), (w.heap.size, 27, ph, pl)]) := by rewrite [← hw]; exact HY2.out.new 27 dh dl
         clear hw HY2
         generalize v2.heap.size = c2 at *
         obtain ⟨⟨r0, s0⟩, -, -⟩ := HX2.out.at (c2) 27 dh dl (by simp)
         obtain ⟨⟨r1, s1⟩, -, -⟩ := HX2.out.at (w.heap.size + 1) 27 mh ml (by simp)
         obtain ⟨⟨r2, s2⟩, -, -⟩ := HX2.out.at (w.heap.size) 27 ph pl (by simp)))
    go_ret
    exact ⟨rfl, HX2.out.below⟩
  · subst r
    go_enter Try.func68, Try.ntmps68
    go_wp2_with fail
    have hX := ((Boxes.nil w).new 27 ph pl).new 27 mh ml
    simp only [size_alloc] at hX
    generalize (w.alloc (.cells #[.int .u64 ph, .int .u64 pl] 27)).alloc (.cells #[.int .u64 mh, .int .u64 ml] 27) = w0 at *
    have HX0 : Hid (Boxes w w0 [(w.heap.size + 1, 27, mh, ml), (w.heap.size, 27, ph, pl)]) := hX
    clear hX
    obtain ⟨⟨r0, s0⟩, -, -⟩ := HX0.out.at (w.heap.size + 1) 27 mh ml (by simp)
    obtain ⟨⟨r1, s1⟩, -, -⟩ := HX0.out.at (w.heap.size) 27 ph pl (by simp)
    go_wp2_with (first
      | (go_at_call 26; with_reducible refine (C1.out _).mono ?_; rintro e v1 ⟨rfl, hb1⟩
         have HY1 := Lib.hid (HX0.out.next hb1)
         clear hb1 r0 s0 r1 s1 HX0
         obtain ⟨⟨r0, s0⟩, -, -⟩ := HY1.out.at (w.heap.size + 1) 27 mh ml (by simp)
         obtain ⟨⟨r1, s1⟩, -, -⟩ := HY1.out.at (w.heap.size) 27 ph pl (by simp))
      | (go_at_call 23; with_reducible refine (C2.out _).mono ?_; rintro e v2 ⟨rfl, hb1⟩
         have HY2 := Lib.hid (HY1.out.next hb1)
         clear hb1 r0 s0 r1 s1 HY1)
      | (obtain ⟨w2, hw⟩ : ∃ w2, v2.alloc (.cells #[.int .u64 dh, .int .u64 dl] 27) = w2 := ⟨_, rfl⟩
         rewrite [hw]
         have HX2 : Hid (Boxes w w2 [(v2.heap.size, 27, dh, dl), (w.heap.size + 1, 27, mh, ml), (w.heap.size, 27, ph, pl)]) := by rewrite [← hw]; exact HY2.out.new 27 dh dl
         clear hw HY2
         generalize v2.heap.size = c2 at *
         obtain ⟨⟨r0, s0⟩, -, -⟩ := HX2.out.at (c2) 27 dh dl (by simp)
         obtain ⟨⟨r1, s1⟩, -, -⟩ := HX2.out.at (w.heap.size + 1) 27 mh ml (by simp)
         obtain ⟨⟨r2, s2⟩, -, -⟩ := HX2.out.at (w.heap.size) 27 ph pl (by simp)))
    go_ret
    exact ⟨rfl, HX2.out.below⟩
  · have hz := hr
    go_enter Try.func68, Try.ntmps68
    go_wp2_with fail
    have hX := ((Boxes.nil w).new 27 ph pl).new 27 mh ml
    simp only [size_alloc] at hX
    generalize (w.alloc (.cells #[.int .u64 ph, .int .u64 pl] 27)).alloc (.cells #[.int .u64 mh, .int .u64 ml] 27) = w0 at *
    have HX0 : Hid (Boxes w w0 [(w.heap.size + 1, 27, mh, ml), (w.heap.size, 27, ph, pl)]) := hX
    clear hX
    obtain ⟨⟨r0, s0⟩, -, -⟩ := HX0.out.at (w.heap.size + 1) 27 mh ml (by simp)
    obtain ⟨⟨r1, s1⟩, -, -⟩ := HX0.out.at (w.heap.size) 27 ph pl (by simp)
    go_wp2_with (first
      | (go_at_call 26; with_reducible refine (C1.out _).mono ?_; rintro e v1 ⟨rfl, hb1⟩
         have HY1 := Lib.hid (HX0.out.next hb1)
         clear hb1 r0 s0 r1 s1 HX0
         obtain ⟨⟨r0, s0⟩, -, -⟩ := HY1.out.at (w.heap.size + 1) 27 mh ml (by simp)
         obtain ⟨⟨r1, s1⟩, -, -⟩ := HY1.out.at (w.heap.size) 27 ph pl (by simp))
      | (go_at_call 23; with_reducible refine (C2.out _).mono ?_; rintro e v2 ⟨rfl, hb1⟩
         have HY2 := Lib.hid (HY1.out.next hb1)
         clear hb1 r0 s0 r1 s1 HY1)
      | (obtain ⟨w2, hw⟩ : ∃ w2, v2.alloc (.cells #[.int .u64 dh, .int .u64 dl] 27) = w2 := ⟨_, rfl⟩
         rewrite [hw]
         have HX2 : Hid (Boxes w w2 [(v2.heap.size, 27, dh, dl), (w.heap.size + 1, 27, mh, ml), (w.heap.size, 27, ph, pl)]) := by rewrite [← hw]; exact HY2.out.new 27 dh dl
         clear hw HY2
         generalize v2.heap.size = c2 at *
         obtain ⟨⟨r0, s0⟩, -, -⟩ := HX2.out.at (c2) 27 dh dl (by simp)
         obtain ⟨⟨r1, s1⟩, -, -⟩ := HX2.out.at (w.heap.size + 1) 27 mh ml (by simp)
         obtain ⟨⟨r2, s2⟩, -, -⟩ := HX2.out.at (w.heap.size) 27 ph pl (by simp)))
    go_ret
    exact ⟨rfl, HX2.out.below⟩
theorem refclip_any (n p m : Nat) (hn : n < M) (hp : p < MM) (hm : m < MM) (w : World) :
    Calls Try.prog 68 #[.int .u64 n, W p, W m] w fun e w' => e = .returned (.int .u64 (clipN n p m)) ∧ Below w.heap.size w w' := by
  refine refclip_walk n (p / M) (p % M) (m / M) (m % M) ((m + MM - p) % MM / M) ((m + MM - p) % MM % M) (clipN n p m) (decide (m < p)) (cmpI p m)
    (fun w => refcmp_any p m hp hm w) (fun w => refsub_any m p hm hp w) ?_ w
  rw [cmp_ge]
  unfold clipN
  by_cases h : m ≤ p
  · exact Or.inl ⟨decide_eq_true h, if_pos h⟩
  · have e : (m + MM - p) % MM = m - p := by
      rw [show m + MM - p = (m - p) + MM by omega, Nat.add_mod_right, Nat.mod_eq_of_lt (by omega)]
    have hM : 0 < M := by rw [M_eq]; omega
    have hd := Nat.div_add_mod (m - p) M
    have hml : (m - p) % M < M := Nat.mod_lt _ hM
    rw [e, if_neg h]
    generalize (m - p) / M = dh at *
    generalize (m - p) % M = dl at *
    by_cases h2 : 0 < dh
    · refine Or.inr (Or.inl ⟨decide_eq_false h, decide_eq_true h2, if_pos ?_⟩)
      have := Nat.mul_le_mul_left M (show 1 ≤ dh from h2)
      omega
    · have h0 : dh = 0 := by omega
      subst h0
      rw [Nat.mul_zero, Nat.zero_add] at hd
      subst hd
      by_cases h3 : n ≤ m - p
      · exact Or.inr (Or.inr (Or.inl ⟨decide_eq_false h, decide_eq_false h2, decide_eq_true h3, if_pos h3⟩))
      · refine Or.inr (Or.inr (Or.inr ⟨decide_eq_false h, decide_eq_false h2, decide_eq_false h3, ?_⟩))
        have hl : M = 18446744073709551616 := M_eq
        rw [if_neg h3, IntKind.wrap_u64]; omega

end Go.Proofs.Ytcaeaepnobbjlaa

