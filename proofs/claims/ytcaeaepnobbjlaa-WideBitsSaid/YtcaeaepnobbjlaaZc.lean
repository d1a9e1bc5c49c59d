import Derived.Test.YtcaeaepnobbjlaaZb
namespace Go.Proofs.Ytcaeaepnobbjlaa
set_option linter.unusedVariables false
set_option linter.unusedSimpArgs false
open Go.RowKit

theorem bit_left (n N k : Nat) (hk : k < 128) : (N < 128 ∧ k + N < 128 → bitOf (n * 2 ^ N) k = bitOf n (k + N)) ∧ (¬ (N < 128 ∧ k + N < 128) → bitOf (n * 2 ^ N) k = 0) := by
  constructor
  · rintro ⟨h1, h2⟩
    unfold bitOf
    rw [show 127 - k = (127 - (k + N)) + N by omega, Nat.pow_add, Nat.mul_div_mul_right _ _ (Nat.two_pow_pos _)]
  · intro h
    unfold bitOf
    obtain ⟨e, rfl⟩ : ∃ e, N = e + 1 + (127 - k) := ⟨N - (127 - k) - 1, by omega⟩
    rw [Nat.pow_add, ← Nat.mul_assoc, Nat.mul_div_cancel _ (Nat.two_pow_pos _), Nat.pow_succ, ← Nat.mul_assoc, Nat.mul_mod_left]
theorem bit_right (n N k : Nat) (hn : n < MM) (hk : k < 128) : (N ≤ k → bitOf (n / 2 ^ N) k = bitOf n (k - N)) ∧ (¬ N ≤ k → bitOf (n / 2 ^ N) k = 0) := by
  constructor
  · intro h
    unfold bitOf
    rw [Nat.div_div_eq_div_mul, ← Nat.pow_add, show N + (127 - k) = 127 - (k - N) by omega]
  · intro h
    unfold bitOf
    rw [Nat.div_div_eq_div_mul, ← Nat.pow_add, Nat.div_eq_of_lt]
    refine Nat.lt_of_lt_of_le hn ?_
    rw [MM_pow]
    exact Nat.pow_le_pow_right (by omega) (by omega)
theorem whole (n : Nat) : numOf (bitOf n) 128 = n % MM := by rw [numOf_bits _ 128 (Nat.le_refl _), Nat.sub_self, Nat.pow_zero, Nat.div_one, MM_pow]
theorem refleft_any (n : Nat) (hn : n < MM) (k : Int) (hk : k ≤ 9223372036854775807) (w : World) :
    Calls Try.prog 31 #[W n, .int .i64 k] w fun e w' => e = .returned (W (n * 2 ^ k.toNat % MM)) ∧ Below w.heap.size w w' := by
  have h2 := fun w => of_bits (bitOf (n * 2 ^ k.toNat)) (bitOf_le _) w
  rw [whole] at h2
  refine refleft_walk (n / M) (n % M) k (bitOf n) (bitOf (n * 2 ^ k.toNat)) _ _ hk (fun w => bits_any n hn w) h2 ?_ w
  by_cases h : k < 1
  · refine Or.inl ⟨h, fun j hj => ?_⟩
    rw [show k.toNat = 0 by omega, Nat.pow_zero, Nat.mul_one]
  · obtain ⟨N, rfl⟩ := Int.eq_ofNat_of_zero_le (show 0 ≤ k by omega)
    exact Or.inr ⟨N, rfl, by omega, fun j hj => by rw [Int.toNat_natCast]; exact bit_left n N j hj⟩
theorem refright2_any (n : Nat) (hn : n < MM) (k : Int) (hk : k ≤ 9223372036854775807) (w : World) :
    Calls Try.prog 33 #[W n, .int .i64 k] w fun e w' => e = .returned (W (n / 2 ^ k.toNat)) ∧ Below w.heap.size w w' := by
  have h2 := fun w => of_bits (bitOf (n / 2 ^ k.toNat)) (bitOf_le _) w
  rw [whole, Nat.mod_eq_of_lt (Nat.lt_of_le_of_lt (Nat.div_le_self _ _) hn)] at h2
  refine refright2_walk (n / M) (n % M) k (bitOf n) (bitOf (n / 2 ^ k.toNat)) _ _ hk (fun w => bits_any n hn w) h2 ?_ w
  by_cases h : k < 1
  · refine Or.inl ⟨h, fun j hj => ?_⟩
    rw [show k.toNat = 0 by omega, Nat.pow_zero, Nat.div_one]
  · obtain ⟨N, rfl⟩ := Int.eq_ofNat_of_zero_le (show 0 ≤ k by omega)
    exact Or.inr ⟨N, rfl, by omega, fun j hj => by rw [Int.toNat_natCast]; exact bit_right n N j hn hj⟩
theorem numOf_ones (m : Nat) : ∀ n, numOf (fun j => if j < m then 1 else 0) n + 2 ^ (n - m) = 2 ^ n
  | 0 => by simp [numOf]
  | n + 1 => by
    have ih := numOf_ones m n
    rw [numOf]
    by_cases h : n < m
    · rw [if_pos h, show n + 1 - m = 0 by omega]
      rw [show n - m = 0 by omega] at ih
      rw [Nat.pow_succ 2 n]
      omega
    · rw [if_neg h, show n + 1 - m = (n - m) + 1 by omega, Nat.pow_succ, Nat.pow_succ]
      omega
theorem refmask_any (k : Int) (w : World) :
    Calls Try.prog 38 #[.int .i64 k] w fun e w' => e = .returned (W (maskN (min k.toNat 128))) ∧ Below w.heap.size w w' := by
  have h2 := fun w => of_bits (fun j => if j < min k.toNat 128 then 1 else 0) (fun i => by split <;> omega) w
  have h3 := numOf_ones (min k.toNat 128) 128
  rw [show numOf (fun j => if j < min k.toNat 128 then 1 else 0) 128 = maskN (min k.toNat 128) by rw [maskN, MM_pow]; omega] at h2
  refine refmask_walk k (fun j => if j < min k.toNat 128 then 1 else 0) _ _ (fun j hj hlt => if_pos (by omega)) (fun j hj hlt => if_neg (by omega)) h2 w
theorem refbit_any (n : Nat) (hn : n < MM) (i : Int) (w : World) :
    Calls Try.prog 41 #[W n, .int .i64 i] w fun e w' => e = .returned (.bool (bitB n i)) ∧ Below w.heap.size w w' := by
  refine refbit_walk (n / M) (n % M) i (bitOf n) (bitB n i) (fun w => bits_any n hn w) ?_ w
  by_cases h : i < 0
  · exact Or.inl ⟨h, decide_eq_false (fun c => by omega)⟩
  · by_cases h2 : 128 ≤ i
    · exact Or.inr (Or.inl ⟨by omega, h2, decide_eq_false (fun c => by omega)⟩)
    · obtain ⟨N, rfl⟩ := Int.eq_ofNat_of_zero_le (show 0 ≤ i by omega)
      refine Or.inr (Or.inr ⟨N, rfl, by omega, ?_⟩)
      rw [bitB, Int.toNat_natCast]
      by_cases hb : bitOf n N = 1
      · rw [decide_eq_true ⟨by omega, by omega, hb⟩, hb]; rfl
      · rw [decide_eq_false (fun c => hb c.2.2)]
        simp only [beq_eq_false_iff_ne, ne_eq]
        omega
theorem bitOf_test (n i : Nat) : bitOf n i = (n.testBit (127 - i)).toNat := by rw [bitOf, Nat.toNat_testBit]
theorem refboth_any (a b : Nat) (ha : a < MM) (hb : b < MM) (o : Bool) (w : World) :
    Calls Try.prog 35 #[W a, W b, .bool o] w fun e w' => e = .returned (W (if o then a ||| b else a &&& b)) ∧ Below w.heap.size w w' := by
  have h2 := fun w => of_bits (bitOf (if o then a ||| b else a &&& b)) (bitOf_le _) w
  have hlt : (if o then a ||| b else a &&& b) < MM := by
    cases o
    · exact Nat.lt_of_le_of_lt Nat.and_le_left ha
    · rw [MM_pow] at *; exact Nat.or_lt_two_pow ha hb
  rw [whole, Nat.mod_eq_of_lt hlt] at h2
  refine refboth_walk (a / M) (a % M) (b / M) (b % M) (bitOf a) (bitOf b) (bitOf (if o then a ||| b else a &&& b)) _ _ o (fun w => bits_any a ha w) (fun w => bits_any b hb w) h2 (bitOf_le _) (bitOf_le _) (fun k => ?_) w
  cases o
  · simp only [Bool.false_eq_true, if_false]
    rw [bitOf_test, bitOf_test, bitOf_test, Nat.testBit_and]
    cases a.testBit (127 - k) <;> cases b.testBit (127 - k) <;> rfl
  · simp only [if_true]
    rw [bitOf_test, bitOf_test, bitOf_test, Nat.testBit_or]
    cases a.testBit (127 - k) <;> cases b.testBit (127 - k) <;> rfl
theorem refsame_any (a b : Nat) (ha : a < MM) (hb : b < MM) (w : World) :
    Calls Try.prog 43 #[W a, W b] w fun e w' => e = .returned (.int .i64 (sameR (bitOf a) (bitOf b) 128 : Nat)) ∧ Below w.heap.size w w' := by
  refine refsame_walk (a / M) (a % M) (b / M) (b % M) (bitOf a) (bitOf b) _ (fun w => bits_any a ha w) (fun w => bits_any b hb w) ?_ w
  rcases first_diff (bitOf a) (bitOf b) 128 with h | ⟨p, hp, hl, hn⟩
  · rw [same_end _ _ h]; exact ⟨h, Nat.le_refl _, fun c => absurd c (by omega)⟩
  · rw [same_stop _ _ p hp hl hn]; exact ⟨hl, by omega, fun _ => hn⟩
theorem as_wv (h l : Nat) (w : World) : Calls Try.prog 21 #[wv h l] w fun e w' => e = .returned (wv h l) ∧ Below w.heap.size w w' := by
  go_enter Try.func21, Try.ntmps21
  go_wp2
  refine bodyPost_ret (v := wv h l) (by simp [results, Try.results21, go_sem]) rfl ⟨rfl, ?_⟩
  exact ((Below.refl _ _).alloc (Nat.le_refl _) _).alloc (by simp) _

set_option maxRecDepth 100000 in
set_option maxHeartbeats 16000000 in
theorem wbits_walk (ah al bh bl lh ll rh rl nh nl oh ol mh ml th tl k : Nat) (n : Int) (bb : Bool)
    (c1 : ∀ w, Calls Try.prog 30 #[wv ah al, .int .i64 n] w fun e w' => e = .returned (wv lh ll) ∧ Below w.heap.size w w')
    (c2 : ∀ w, Calls Try.prog 31 #[wv ah al, .int .i64 n] w fun e w' => e = .returned (wv lh ll) ∧ Below w.heap.size w w')
    (c3 : ∀ w, Calls Try.prog 32 #[wv ah al, .int .i64 n] w fun e w' => e = .returned (wv rh rl) ∧ Below w.heap.size w w')
    (c4 : ∀ w, Calls Try.prog 33 #[wv ah al, .int .i64 n] w fun e w' => e = .returned (wv rh rl) ∧ Below w.heap.size w w')
    (c5 : ∀ w, Calls Try.prog 34 #[wv ah al, wv bh bl] w fun e w' => e = .returned (wv nh nl) ∧ Below w.heap.size w w')
    (c6 : ∀ w, Calls Try.prog 35 #[wv ah al, wv bh bl, .bool false] w fun e w' => e = .returned (wv nh nl) ∧ Below w.heap.size w w')
    (c7 : ∀ w, Calls Try.prog 36 #[wv ah al, wv bh bl] w fun e w' => e = .returned (wv oh ol) ∧ Below w.heap.size w w')
    (c8 : ∀ w, Calls Try.prog 35 #[wv ah al, wv bh bl, .bool true] w fun e w' => e = .returned (wv oh ol) ∧ Below w.heap.size w w')
    (c9 : ∀ w, Calls Try.prog 37 #[.int .i64 n] w fun e w' => e = .returned (wv mh ml) ∧ Below w.heap.size w w')
    (c10 : ∀ w, Calls Try.prog 38 #[.int .i64 n] w fun e w' => e = .returned (wv mh ml) ∧ Below w.heap.size w w')
    (c11 : ∀ w, Calls Try.prog 39 #[wv ah al, .int .i64 n] w fun e w' => e = .returned (wv th tl) ∧ Below w.heap.size w w')
    (c12 : ∀ w, Calls Try.prog 35 #[wv ah al, wv mh ml, .bool false] w fun e w' => e = .returned (wv th tl) ∧ Below w.heap.size w w')
    (c13 : ∀ w, Calls Try.prog 40 #[wv ah al, .int .i64 n] w fun e w' => e = .returned (.bool bb) ∧ Below w.heap.size w w')
    (c14 : ∀ w, Calls Try.prog 41 #[wv ah al, .int .i64 n] w fun e w' => e = .returned (.bool bb) ∧ Below w.heap.size w w')
    (c15 : ∀ w, Calls Try.prog 42 #[wv ah al, wv bh bl] w fun e w' => e = .returned (.int .i64 k) ∧ Below w.heap.size w w')
    (c16 : ∀ w, Calls Try.prog 43 #[wv ah al, wv bh bl] w fun e w' => e = .returned (.int .i64 k) ∧ Below w.heap.size w w') (w : World) :
    Calls Try.prog 7 #[wv ah al, wv bh bl, .int .i64 n] w fun e w' => e = .returned (.bool true) ∧ Below w.heap.size w w' := by
  have C1 := Lib.hid c1
  have C2 := Lib.hid c2
  have C3 := Lib.hid c3
  have C4 := Lib.hid c4
  have C5 := Lib.hid c5
  have C6 := Lib.hid c6
  have C7 := Lib.hid c7
  have C8 := Lib.hid c8
  have C9 := Lib.hid c9
  have C10 := Lib.hid c10
  have C11 := Lib.hid c11
  have C12 := Lib.hid c12
  have C13 := Lib.hid c13
  have C14 := Lib.hid c14
  have C15 := Lib.hid c15
  have C16 := Lib.hid c16
  clear c1 c2 c3 c4 c5 c6 c7 c8 c9 c10 c11 c12 c13 c14 c15 c16
  go_enter Try.func7, Try.ntmps7
  go_wp2_with fail
  have hX := ((Boxes.nil w).new 24 ah al).new 24 bh bl
  (try simp only [size_alloc] at hX)
  generalize (w.alloc (.cells #[.int .u64 ah, .int .u64 al] 24)).alloc (.cells #[.int .u64 bh, .int .u64 bl] 24) = w0 at *
  have HX0 : Hid (Boxes w w0 [(w.heap.size + 1, 24, bh, bl), (w.heap.size, 24, ah, al)]) := hX
  clear hX
  go_cut [7, 8] from 9 to 12 (fun s7 s8 wx => ∃ b7 b8 : Nat, s7 = .pointer (some ⟨b7, 0, none⟩) ∧ s8 = .pointer (some ⟨b8, 0, none⟩) ∧ Boxes w wx [(b8, 27, bh, bl), (b7, 27, ah, al), (w.heap.size + 1, 24, bh, bl), (w.heap.size, 24, ah, al)])
  case first =>
    have HNk : ∀ W, Boxes w W [(w.heap.size + 1, 24, bh, bl), (w.heap.size, 24, ah, al)] → w0.heap.size ≤ W.heap.size → (Boxes w W [(w.heap.size + 1, 24, bh, bl), (w.heap.size, 24, ah, al)] ∧ w0.heap.size ≤ W.heap.size ∧ (W.cell? ⟨w.heap.size + 1, 0, none⟩ = some (.int .u64 bh) ∧ W.cell? ⟨w.heap.size + 1, 1, none⟩ = some (.int .u64 bl)) ∧ (W.cell? ⟨w.heap.size, 0, none⟩ = some (.int .u64 ah) ∧ W.cell? ⟨w.heap.size, 1, none⟩ = some (.int .u64 al))) := fun W h hs => ⟨h, hs, two_cells (h.all (w.heap.size + 1, 24, bh, bl) (by simp)), two_cells (h.all (w.heap.size, 24, ah, al) (by simp))⟩
    have HN : Hid (∀ W V, (Boxes w W [(w.heap.size + 1, 24, bh, bl), (w.heap.size, 24, ah, al)] ∧ w0.heap.size ≤ W.heap.size ∧ (W.cell? ⟨w.heap.size + 1, 0, none⟩ = some (.int .u64 bh) ∧ W.cell? ⟨w.heap.size + 1, 1, none⟩ = some (.int .u64 bl)) ∧ (W.cell? ⟨w.heap.size, 0, none⟩ = some (.int .u64 ah) ∧ W.cell? ⟨w.heap.size, 1, none⟩ = some (.int .u64 al))) → Below W.heap.size W V → (Boxes w V [(w.heap.size + 1, 24, bh, bl), (w.heap.size, 24, ah, al)] ∧ w0.heap.size ≤ V.heap.size ∧ (V.cell? ⟨w.heap.size + 1, 0, none⟩ = some (.int .u64 bh) ∧ V.cell? ⟨w.heap.size + 1, 1, none⟩ = some (.int .u64 bl)) ∧ (V.cell? ⟨w.heap.size, 0, none⟩ = some (.int .u64 ah) ∧ V.cell? ⟨w.heap.size, 1, none⟩ = some (.int .u64 al)))) := fun W V h hb => HNk _ (h.1.next hb) (Nat.le_trans h.2.1 hb.size)
    have HS0 : Hid (Boxes w w0.drew [(w.heap.size + 1, 24, bh, bl), (w.heap.size, 24, ah, al)] ∧ w0.heap.size ≤ w0.drew.heap.size ∧ (w0.drew.cell? ⟨w.heap.size + 1, 0, none⟩ = some (.int .u64 bh) ∧ w0.drew.cell? ⟨w.heap.size + 1, 1, none⟩ = some (.int .u64 bl)) ∧ (w0.drew.cell? ⟨w.heap.size, 0, none⟩ = some (.int .u64 ah) ∧ w0.drew.cell? ⟨w.heap.size, 1, none⟩ = some (.int .u64 al))) := HNk _ (HX0.out.next ⟨rfl, rfl, rfl, Nat.le_refl _, fun _ _ => rfl⟩) (Nat.le_refl _)
    have HR : Hid (∀ W g cs, (Boxes w W [(w.heap.size + 1, 24, bh, bl), (w.heap.size, 24, ah, al)] ∧ w0.heap.size ≤ W.heap.size ∧ (W.cell? ⟨w.heap.size + 1, 0, none⟩ = some (.int .u64 bh) ∧ W.cell? ⟨w.heap.size + 1, 1, none⟩ = some (.int .u64 bl)) ∧ (W.cell? ⟨w.heap.size, 0, none⟩ = some (.int .u64 ah) ∧ W.cell? ⟨w.heap.size, 1, none⟩ = some (.int .u64 al))) → w0.heap.size ≤ g → (Boxes w (W.setRow g cs) [(w.heap.size + 1, 24, bh, bl), (w.heap.size, 24, ah, al)] ∧ w0.heap.size ≤ (W.setRow g cs).heap.size ∧ ((W.setRow g cs).cell? ⟨w.heap.size + 1, 0, none⟩ = some (.int .u64 bh) ∧ (W.setRow g cs).cell? ⟨w.heap.size + 1, 1, none⟩ = some (.int .u64 bl)) ∧ ((W.setRow g cs).cell? ⟨w.heap.size, 0, none⟩ = some (.int .u64 ah) ∧ (W.setRow g cs).cell? ⟨w.heap.size, 1, none⟩ = some (.int .u64 al)))) := fun W g cs h hg => HNk _ (h.1.row g cs (Nat.le_trans HX0.out.below.size hg) (fun x hx e => by have := HX0.out.lt x hx; omega)) (by rw [setRow_size]; exact h.2.1)
    clear HNk
    refine wp_region_noPanic ?_
    refine wp_region_held_drew (S := fun W => Boxes w W [(w.heap.size + 1, 24, bh, bl), (w.heap.size, 24, ah, al)] ∧ w0.heap.size ≤ W.heap.size ∧ (W.cell? ⟨w.heap.size + 1, 0, none⟩ = some (.int .u64 bh) ∧ W.cell? ⟨w.heap.size + 1, 1, none⟩ = some (.int .u64 bl)) ∧ (W.cell? ⟨w.heap.size, 0, none⟩ = some (.int .u64 ah) ∧ W.cell? ⟨w.heap.size, 1, none⟩ = some (.int .u64 al))) (by kernel_rfl) ?_ (fun hHeld => ?_)
    · exact HS0.out
    refine wpAnyH_take (i := 0) (oi := { dst := some 9, op := Op.load 24 (Operand.tmp 3), type := 24, pos := "law.go:33", after := #[], guard := none }) (v := ?_) rfl (by kernel_rfl) (by kernel_rfl) (by kernel_rfl) (fun _ _ _ h => h) (Or.inl ⟨by rfl, ?_⟩) (by assumption) ?_
    rotate_left
    · (intro w9 hS9; (try dsimp only at hS9); go_simp); all_goals (with_reducible rfl)
    (try simp only [Act.put, List.setIfInBounds_toArray, List.set_cons_zero, List.set_cons_succ])
    refine wpAnyH_take (i := 2) (oi := { dst := some 11, op := Op.load 24 (Operand.tmp 4), type := 24, pos := "law.go:33", after := #[], guard := none }) (v := ?_) rfl (by kernel_rfl) (by kernel_rfl) (by kernel_rfl) (fun _ _ _ h => h) (Or.inl ⟨by rfl, ?_⟩) (by assumption) ?_
    rotate_left
    · (intro w9 hS9; (try dsimp only at hS9); go_simp); all_goals (with_reducible rfl)
    (try simp only [Act.put, List.setIfInBounds_toArray, List.set_cons_zero, List.set_cons_succ])
    refine wpAnyH_ready (rs := [1, 4, 5]) (by kernel_rfl) (by simp) ?_
    refine AllReadyH.cons (o := { dst := some 10, op := Op.call { callee := Callee.value (Operand.func 21), args := #[Operand.tmp 9], argTypes := #[24] }, type := 27, pos := "law.go:33", after := #[{ on := 0, ground := Ground.data }], guard := none }) rfl (fun K hK => ?_) ?_
    · go_simp
      with_reducible refine (as_wv _ _ _).mono ?_
      rintro e w1 ⟨rfl, hb1⟩
      have hS1 := HN.out _ _ (by assumption) hb1
      have hsz := hb1.size
      (try simp only [size_alloc, heap_drew] at hsz)
      (try go_wp2_with fail)
      refine hK.out _ _ ?_ (fun hHeld => ?_)
      · (first | exact hS1 | assumption | exact HN.out _ _ (by assumption) (below_alloc (Below.refl _ _) _) | exact HR.out _ _ _ (by assumption) (by first | omega | (simp; try omega)))
      clear hK K
      (try simp only [Act.put, List.setIfInBounds_toArray, List.set_cons_zero, List.set_cons_succ])
      refine wpAnyH_ready (rs := [3, 4, 5]) (by kernel_rfl) (by simp) ?_
      refine AllReadyH.cons (o := { dst := some 12, op := Op.call { callee := Callee.value (Operand.func 21), args := #[Operand.tmp 11], argTypes := #[24] }, type := 27, pos := "law.go:33", after := #[{ on := 2, ground := Ground.data }, { on := 1, ground := Ground.chain }], guard := none }) rfl (fun K hK => ?_) ?_
      · go_simp
        with_reducible refine (as_wv _ _ _).mono ?_
        rintro e w1 ⟨rfl, hb1⟩
        have hS1 := HN.out _ _ (by assumption) hb1
        have hsz := hb1.size
        (try simp only [size_alloc, heap_drew] at hsz)
        (try go_wp2_with fail)
        refine hK.out _ _ ?_ (fun hHeld => ?_)
        · (first | exact hS1 | assumption | exact HN.out _ _ (by assumption) (below_alloc (Below.refl _ _) _) | exact HR.out _ _ _ (by assumption) (by first | omega | (simp; try omega)))
        clear hK K
        (try simp only [Act.put, List.setIfInBounds_toArray, List.set_cons_zero, List.set_cons_succ])
        refine wpAnyH_ready (rs := [4, 5]) (by kernel_rfl) (by simp) ?_
        refine AllReadyH.cons (o := { dst := some 7, op := Op.alloc 27, type := 0, pos := "law.go:33", after := #[], guard := none }) rfl (fun K hK => ?_) ?_
        · go_simp
          skip
          (try go_wp2_with fail)
          refine hK.out _ _ ?_ (fun hHeld => ?_)
          · (first | exact hS1 | assumption | exact HN.out _ _ (by assumption) (below_alloc (Below.refl _ _) _) | exact HR.out _ _ _ (by assumption) (by first | omega | (simp; try omega)))
          clear hK K
          (try simp only [Act.put, List.setIfInBounds_toArray, List.set_cons_zero, List.set_cons_succ])
          refine wpAnyH_ready (rs := [5]) (by kernel_rfl) (by simp) ?_
          refine AllReadyH.cons (o := { dst := some 8, op := Op.alloc 27, type := 0, pos := "law.go:33", after := #[], guard := none }) rfl (fun K hK => ?_) ?_
          · go_simp
            skip
            (try go_wp2_with fail)
            refine hK.out _ _ ?_ (fun hHeld => ?_)
            · (first | exact hS1 | assumption | exact HN.out _ _ (by assumption) (below_alloc (Below.refl _ _) _) | exact HR.out _ _ _ (by assumption) (by first | omega | (simp; try omega)))
            clear hK K
            (try simp only [Act.put, List.setIfInBounds_toArray, List.set_cons_zero, List.set_cons_succ])
            refine wpAnyH_ready (rs := [6]) (by kernel_rfl) (by simp) ?_
            refine AllReadyH.cons (o := { dst := none, op := Op.store 27 (Operand.tmp 7) (Operand.tmp 10), type := 0, pos := "law.go:33", after := #[{ on := 4, ground := Ground.data }, { on := 1, ground := Ground.data }, { on := 3, ground := Ground.chain }, { on := 0, ground := Ground.phase }, { on := 1, ground := Ground.phase }, { on := 2, ground := Ground.textOnly Departure.lateStores }, { on := 3, ground := Ground.textOnly Departure.lateStoresUnsure }, { on := 4, ground := Ground.phase }, { on := 5, ground := Ground.phase }], guard := none }) rfl (fun K hK => ?_) ?_
            · rw [if_pos (by rfl)]
              refine wp_store_row 27 _ _ rfl _ #[.int .u64 ah, .int .u64 al] rfl rfl 27 #[.int .u64 0, .int .u64 0] ?_ size27 rfl (one2 _ _) ?_
              · repeat' first | with_reducible exact heap_alloc_new _ _ | with_reducible exact heap_alloc2_new _ _ _ | with_reducible refine old_drew ?_ | with_reducible refine old_alloc _ ?_ | with_reducible refine old_row _ (by simp; try omega) ?_ | with_reducible refine old_below (by assumption) ?_
              (try go_wp2_with fail)
              refine hK.out _ _ ?_ (fun hHeld => ?_)
              · (first | exact hS1 | assumption | exact HN.out _ _ (by assumption) (below_alloc (Below.refl _ _) _) | exact HR.out _ _ _ (by assumption) (by first | omega | (simp; try omega)))
              clear hK K
              (try simp only [Act.put, List.setIfInBounds_toArray, List.set_cons_zero, List.set_cons_succ])
              refine wpAnyH_ready (rs := [7]) (by kernel_rfl) (by simp) ?_
              refine AllReadyH.cons (o := { dst := none, op := Op.store 27 (Operand.tmp 8) (Operand.tmp 12), type := 0, pos := "law.go:33", after := #[{ on := 5, ground := Ground.data }, { on := 3, ground := Ground.data }, { on := 6, ground := Ground.chain }, { on := 0, ground := Ground.phase }, { on := 1, ground := Ground.phase }, { on := 2, ground := Ground.phase }, { on := 3, ground := Ground.phase }, { on := 4, ground := Ground.phase }, { on := 5, ground := Ground.phase }, { on := 6, ground := Ground.phase }], guard := none }) rfl (fun K hK => ?_) ?_
              · rw [if_pos (by rfl)]
                refine wp_store_row 27 _ _ rfl _ #[.int .u64 bh, .int .u64 bl] rfl rfl 27 #[.int .u64 0, .int .u64 0] ?_ size27 rfl (one2 _ _) ?_
                · repeat' first | with_reducible exact heap_alloc_new _ _ | with_reducible exact heap_alloc2_new _ _ _ | with_reducible refine old_drew ?_ | with_reducible refine old_alloc _ ?_ | with_reducible refine old_row _ (by simp; try omega) ?_ | with_reducible refine old_below (by assumption) ?_
                (try go_wp2_with fail)
                refine hK.out _ _ ?_ (fun hHeld => ?_)
                · (first | exact hS1 | assumption | exact HN.out _ _ (by assumption) (below_alloc (Below.refl _ _) _) | exact HR.out _ _ _ (by assumption) (by first | omega | (simp; try omega)))
                clear hK K
                (try simp only [Act.put, List.setIfInBounds_toArray, List.set_cons_zero, List.set_cons_succ])
                refine wpAnyH_done (by kernel_rfl) (NoPanic.normal ?_) _
                go_wp2_with fail
                go_meet
                case rel =>
                  refine ⟨_, _, rfl, rfl, Boxes.cons (Boxes.cons (And.left (by assumption)) ?_) ?_⟩
                  · with_reducible refine old_row _ (by simp; try omega) ?_
                    refine setRow_heap _ _ #[.int .u64 0, .int .u64 0] _ 27 (0, 0) ?_
                    repeat' first | with_reducible exact heap_alloc_new _ _ | with_reducible exact heap_alloc2_new _ _ _ | with_reducible refine old_drew ?_ | with_reducible refine old_alloc _ ?_ | with_reducible refine old_row _ (by simp; try omega) ?_ | with_reducible refine old_below (by assumption) ?_
                  · refine setRow_heap _ _ #[.int .u64 0, .int .u64 0] _ 27 (0, 0) ?_
                    repeat' first | with_reducible exact heap_alloc_new _ _ | with_reducible exact heap_alloc2_new _ _ _ | with_reducible refine old_drew ?_ | with_reducible refine old_alloc _ ?_ | with_reducible refine old_row _ (by simp; try omega) ?_ | with_reducible refine old_below (by assumption) ?_
              exact AllReadyH.nil
            exact AllReadyH.nil
          exact AllReadyH.nil
        refine AllReadyH.cons (o := { dst := some 8, op := Op.alloc 27, type := 0, pos := "law.go:33", after := #[], guard := none }) rfl (fun K hK => ?_) ?_
        · go_simp
          skip
          (try go_wp2_with fail)
          refine hK.out _ _ ?_ (fun hHeld => ?_)
          · (first | exact hS1 | assumption | exact HN.out _ _ (by assumption) (below_alloc (Below.refl _ _) _) | exact HR.out _ _ _ (by assumption) (by first | omega | (simp; try omega)))
          clear hK K
          (try simp only [Act.put, List.setIfInBounds_toArray, List.set_cons_zero, List.set_cons_succ])
          refine wpAnyH_ready (rs := [4]) (by kernel_rfl) (by simp) ?_
          refine AllReadyH.cons (o := { dst := some 7, op := Op.alloc 27, type := 0, pos := "law.go:33", after := #[], guard := none }) rfl (fun K hK => ?_) ?_
          · go_simp
            skip
            (try go_wp2_with fail)
            refine hK.out _ _ ?_ (fun hHeld => ?_)
            · (first | exact hS1 | assumption | exact HN.out _ _ (by assumption) (below_alloc (Below.refl _ _) _) | exact HR.out _ _ _ (by assumption) (by first | omega | (simp; try omega)))
            clear hK K
            (try simp only [Act.put, List.setIfInBounds_toArray, List.set_cons_zero, List.set_cons_succ])
            refine wpAnyH_ready (rs := [6]) (by kernel_rfl) (by simp) ?_
            refine AllReadyH.cons (o := { dst := none, op := Op.store 27 (Operand.tmp 7) (Operand.tmp 10), type := 0, pos := "law.go:33", after := #[{ on := 4, ground := Ground.data }, { on := 1, ground := Ground.data }, { on := 3, ground := Ground.chain }, { on := 0, ground := Ground.phase }, { on := 1, ground := Ground.phase }, { on := 2, ground := Ground.textOnly Departure.lateStores }, { on := 3, ground := Ground.textOnly Departure.lateStoresUnsure }, { on := 4, ground := Ground.phase }, { on := 5, ground := Ground.phase }], guard := none }) rfl (fun K hK => ?_) ?_
            · rw [if_pos (by rfl)]
              refine wp_store_row 27 _ _ rfl _ #[.int .u64 ah, .int .u64 al] rfl rfl 27 #[.int .u64 0, .int .u64 0] ?_ size27 rfl (one2 _ _) ?_
              · repeat' first | with_reducible exact heap_alloc_new _ _ | with_reducible exact heap_alloc2_new _ _ _ | with_reducible refine old_drew ?_ | with_reducible refine old_alloc _ ?_ | with_reducible refine old_row _ (by simp; try omega) ?_ | with_reducible refine old_below (by assumption) ?_
              (try go_wp2_with fail)
              refine hK.out _ _ ?_ (fun hHeld => ?_)
              · (first | exact hS1 | assumption | exact HN.out _ _ (by assumption) (below_alloc (Below.refl _ _) _) | exact HR.out _ _ _ (by assumption) (by first | omega | (simp; try omega)))
              clear hK K
              (try simp only [Act.put, List.setIfInBounds_toArray, List.set_cons_zero, List.set_cons_succ])
              refine wpAnyH_ready (rs := [7]) (by kernel_rfl) (by simp) ?_
              refine AllReadyH.cons (o := { dst := none, op := Op.store 27 (Operand.tmp 8) (Operand.tmp 12), type := 0, pos := "law.go:33", after := #[{ on := 5, ground := Ground.data }, { on := 3, ground := Ground.data }, { on := 6, ground := Ground.chain }, { on := 0, ground := Ground.phase }, { on := 1, ground := Ground.phase }, { on := 2, ground := Ground.phase }, { on := 3, ground := Ground.phase }, { on := 4, ground := Ground.phase }, { on := 5, ground := Ground.phase }, { on := 6, ground := Ground.phase }], guard := none }) rfl (fun K hK => ?_) ?_
              · rw [if_pos (by rfl)]
                refine wp_store_row 27 _ _ rfl _ #[.int .u64 bh, .int .u64 bl] rfl rfl 27 #[.int .u64 0, .int .u64 0] ?_ size27 rfl (one2 _ _) ?_
                · repeat' first | with_reducible exact heap_alloc_new _ _ | with_reducible exact heap_alloc2_new _ _ _ | with_reducible refine old_drew ?_ | with_reducible refine old_alloc _ ?_ | with_reducible refine old_row _ (by simp; try omega) ?_ | with_reducible refine old_below (by assumption) ?_
                (try go_wp2_with fail)
                refine hK.out _ _ ?_ (fun hHeld => ?_)
                · (first | exact hS1 | assumption | exact HN.out _ _ (by assumption) (below_alloc (Below.refl _ _) _) | exact HR.out _ _ _ (by assumption) (by first | omega | (simp; try omega)))
                clear hK K
                (try simp only [Act.put, List.setIfInBounds_toArray, List.set_cons_zero, List.set_cons_succ])
                refine wpAnyH_done (by kernel_rfl) (NoPanic.normal ?_) _
                go_wp2_with fail
                go_meet
                case rel =>
                  refine ⟨_, _, rfl, rfl, Boxes.cons (Boxes.cons (And.left (by assumption)) ?_) ?_⟩
                  · with_reducible refine old_row _ (by simp; try omega) ?_
                    refine setRow_heap _ _ #[.int .u64 0, .int .u64 0] _ 27 (0, 0) ?_
                    repeat' first | with_reducible exact heap_alloc_new _ _ | with_reducible exact heap_alloc2_new _ _ _ | with_reducible refine old_drew ?_ | with_reducible refine old_alloc _ ?_ | with_reducible refine old_row _ (by simp; try omega) ?_ | with_reducible refine old_below (by assumption) ?_
                  · refine setRow_heap _ _ #[.int .u64 0, .int .u64 0] _ 27 (0, 0) ?_
                    repeat' first | with_reducible exact heap_alloc_new _ _ | with_reducible exact heap_alloc2_new _ _ _ | with_reducible refine old_drew ?_ | with_reducible refine old_alloc _ ?_ | with_reducible refine old_row _ (by simp; try omega) ?_ | with_reducible refine old_below (by assumption) ?_
              exact AllReadyH.nil
            exact AllReadyH.nil
          exact AllReadyH.nil
        exact AllReadyH.nil
      refine AllReadyH.cons (o := { dst := some 7, op := Op.alloc 27, type := 0, pos := "law.go:33", after := #[], guard := none }) rfl (fun K hK => ?_) ?_
      · go_simp
        skip
        (try go_wp2_with fail)
        refine hK.out _ _ ?_ (fun hHeld => ?_)
        · (first | exact hS1 | assumption | exact HN.out _ _ (by assumption) (below_alloc (Below.refl _ _) _) | exact HR.out _ _ _ (by assumption) (by first | omega | (simp; try omega)))
        clear hK K
        (try simp only [Act.put, List.setIfInBounds_toArray, List.set_cons_zero, List.set_cons_succ])
        refine wpAnyH_ready (rs := [3, 5]) (by kernel_rfl) (by simp) ?_
        refine AllReadyH.cons (o := { dst := some 12, op := Op.call { callee := Callee.value (Operand.func 21), args := #[Operand.tmp 11], argTypes := #[24] }, type := 27, pos := "law.go:33", after := #[{ on := 2, ground := Ground.data }, { on := 1, ground := Ground.chain }], guard := none }) rfl (fun K hK => ?_) ?_
        · go_simp
          with_reducible refine (as_wv _ _ _).mono ?_
          rintro e w1 ⟨rfl, hb1⟩
          have hS1 := HN.out _ _ (by assumption) hb1
          have hsz := hb1.size
          (try simp only [size_alloc, heap_drew] at hsz)
          (try go_wp2_with fail)
          refine hK.out _ _ ?_ (fun hHeld => ?_)
          · (first | exact hS1 | assumption | exact HN.out _ _ (by assumption) (below_alloc (Below.refl _ _) _) | exact HR.out _ _ _ (by assumption) (by first | omega | (simp; try omega)))
          clear hK K
          (try simp only [Act.put, List.setIfInBounds_toArray, List.set_cons_zero, List.set_cons_succ])
          refine wpAnyH_ready (rs := [5]) (by kernel_rfl) (by simp) ?_
          refine AllReadyH.cons (o := { dst := some 8, op := Op.alloc 27, type := 0, pos := "law.go:33", after := #[], guard := none }) rfl (fun K hK => ?_) ?_
          · go_simp
            skip
            (try go_wp2_with fail)
            refine hK.out _ _ ?_ (fun hHeld => ?_)
            · (first | exact hS1 | assumption | exact HN.out _ _ (by assumption) (below_alloc (Below.refl _ _) _) | exact HR.out _ _ _ (by assumption) (by first | omega | (simp; try omega)))
            clear hK K
            (try simp only [Act.put, List.setIfInBounds_toArray, List.set_cons_zero, List.set_cons_succ])
            refine wpAnyH_ready (rs := [6]) (by kernel_rfl) (by simp) ?_
            refine AllReadyH.cons (o := { dst := none, op := Op.store 27 (Operand.tmp 7) (Operand.tmp 10), type := 0, pos := "law.go:33", after := #[{ on := 4, ground := Ground.data }, { on := 1, ground := Ground.data }, { on := 3, ground := Ground.chain }, { on := 0, ground := Ground.phase }, { on := 1, ground := Ground.phase }, { on := 2, ground := Ground.textOnly Departure.lateStores }, { on := 3, ground := Ground.textOnly Departure.lateStoresUnsure }, { on := 4, ground := Ground.phase }, { on := 5, ground := Ground.phase }], guard := none }) rfl (fun K hK => ?_) ?_
            · rw [if_pos (by rfl)]
              refine wp_store_row 27 _ _ rfl _ #[.int .u64 ah, .int .u64 al] rfl rfl 27 #[.int .u64 0, .int .u64 0] ?_ size27 rfl (one2 _ _) ?_
              · repeat' first | with_reducible exact heap_alloc_new _ _ | with_reducible exact heap_alloc2_new _ _ _ | with_reducible refine old_drew ?_ | with_reducible refine old_alloc _ ?_ | with_reducible refine old_row _ (by simp; try omega) ?_ | with_reducible refine old_below (by assumption) ?_
              (try go_wp2_with fail)
              refine hK.out _ _ ?_ (fun hHeld => ?_)
              · (first | exact hS1 | assumption | exact HN.out _ _ (by assumption) (below_alloc (Below.refl _ _) _) | exact HR.out _ _ _ (by assumption) (by first | omega | (simp; try omega)))
              clear hK K
              (try simp only [Act.put, List.setIfInBounds_toArray, List.set_cons_zero, List.set_cons_succ])
              refine wpAnyH_ready (rs := [7]) (by kernel_rfl) (by simp) ?_
              refine AllReadyH.cons (o := { dst := none, op := Op.store 27 (Operand.tmp 8) (Operand.tmp 12), type := 0, pos := "law.go:33", after := #[{ on := 5, ground := Ground.data }, { on := 3, ground := Ground.data }, { on := 6, ground := Ground.chain }, { on := 0, ground := Ground.phase }, { on := 1, ground := Ground.phase }, { on := 2, ground := Ground.phase }, { on := 3, ground := Ground.phase }, { on := 4, ground := Ground.phase }, { on := 5, ground := Ground.phase }, { on := 6, ground := Ground.phase }], guard := none }) rfl (fun K hK => ?_) ?_
              · rw [if_pos (by rfl)]
                refine wp_store_row 27 _ _ rfl _ #[.int .u64 bh, .int .u64 bl] rfl rfl 27 #[.int .u64 0, .int .u64 0] ?_ size27 rfl (one2 _ _) ?_
                · repeat' first | with_reducible exact heap_alloc_new _ _ | with_reducible exact heap_alloc2_new _ _ _ | with_reducible refine old_drew ?_ | with_reducible refine old_alloc _ ?_ | with_reducible refine old_row _ (by simp; try omega) ?_ | with_reducible refine old_below (by assumption) ?_
                (try go_wp2_with fail)
                refine hK.out _ _ ?_ (fun hHeld => ?_)
                · (first | exact hS1 | assumption | exact HN.out _ _ (by assumption) (below_alloc (Below.refl _ _) _) | exact HR.out _ _ _ (by assumption) (by first | omega | (simp; try omega)))
                clear hK K
                (try simp only [Act.put, List.setIfInBounds_toArray, List.set_cons_zero, List.set_cons_succ])
                refine wpAnyH_done (by kernel_rfl) (NoPanic.normal ?_) _
                go_wp2_with fail
                go_meet
                case rel =>
                  refine ⟨_, _, rfl, rfl, Boxes.cons (Boxes.cons (And.left (by assumption)) ?_) ?_⟩
                  · with_reducible refine old_row _ (by simp; try omega) ?_
                    refine setRow_heap _ _ #[.int .u64 0, .int .u64 0] _ 27 (0, 0) ?_
                    repeat' first | with_reducible exact heap_alloc_new _ _ | with_reducible exact heap_alloc2_new _ _ _ | with_reducible refine old_drew ?_ | with_reducible refine old_alloc _ ?_ | with_reducible refine old_row _ (by simp; try omega) ?_ | with_reducible refine old_below (by assumption) ?_
                  · refine setRow_heap _ _ #[.int .u64 0, .int .u64 0] _ 27 (0, 0) ?_
                    repeat' first | with_reducible exact heap_alloc_new _ _ | with_reducible exact heap_alloc2_new _ _ _ | with_reducible refine old_drew ?_ | with_reducible refine old_alloc _ ?_ | with_reducible refine old_row _ (by simp; try omega) ?_ | with_reducible refine old_below (by assumption) ?_
              exact AllReadyH.nil
            exact AllReadyH.nil
          exact AllReadyH.nil
        refine AllReadyH.cons (o := { dst := some 8, op := Op.alloc 27, type := 0, pos := "law.go:33", after := #[], guard := none }) rfl (fun K hK => ?_) ?_
        · go_simp
          skip
          (try go_wp2_with fail)
          refine hK.out _ _ ?_ (fun hHeld => ?_)
          · (first | exact hS1 | assumption | exact HN.out _ _ (by assumption) (below_alloc (Below.refl _ _) _) | exact HR.out _ _ _ (by assumption) (by first | omega | (simp; try omega)))
          clear hK K
          (try simp only [Act.put, List.setIfInBounds_toArray, List.set_cons_zero, List.set_cons_succ])
          refine wpAnyH_ready (rs := [3]) (by kernel_rfl) (by simp) ?_
          refine AllReadyH.cons (o := { dst := some 12, op := Op.call { callee := Callee.value (Operand.func 21), args := #[Operand.tmp 11], argTypes := #[24] }, type := 27, pos := "law.go:33", after := #[{ on := 2, ground := Ground.data }, { on := 1, ground := Ground.chain }], guard := none }) rfl (fun K hK => ?_) ?_
          · go_simp
            with_reducible refine (as_wv _ _ _).mono ?_
            rintro e w1 ⟨rfl, hb1⟩
            have hS1 := HN.out _ _ (by assumption) hb1
            have hsz := hb1.size
            (try simp only [size_alloc, heap_drew] at hsz)
            (try go_wp2_with fail)
            refine hK.out _ _ ?_ (fun hHeld => ?_)
            · (first | exact hS1 | assumption | exact HN.out _ _ (by assumption) (below_alloc (Below.refl _ _) _) | exact HR.out _ _ _ (by assumption) (by first | omega | (simp; try omega)))
            clear hK K
            (try simp only [Act.put, List.setIfInBounds_toArray, List.set_cons_zero, List.set_cons_succ])
            refine wpAnyH_ready (rs := [6]) (by kernel_rfl) (by simp) ?_
            refine AllReadyH.cons (o := { dst := none, op := Op.store 27 (Operand.tmp 7) (Operand.tmp 10), type := 0, pos := "law.go:33", after := #[{ on := 4, ground := Ground.data }, { on := 1, ground := Ground.data }, { on := 3, ground := Ground.chain }, { on := 0, ground := Ground.phase }, { on := 1, ground := Ground.phase }, { on := 2, ground := Ground.textOnly Departure.lateStores }, { on := 3, ground := Ground.textOnly Departure.lateStoresUnsure }, { on := 4, ground := Ground.phase }, { on := 5, ground := Ground.phase }], guard := none }) rfl (fun K hK => ?_) ?_
            · rw [if_pos (by rfl)]
              refine wp_store_row 27 _ _ rfl _ #[.int .u64 ah, .int .u64 al] rfl rfl 27 #[.int .u64 0, .int .u64 0] ?_ size27 rfl (one2 _ _) ?_
              · repeat' first | with_reducible exact heap_alloc_new _ _ | with_reducible exact heap_alloc2_new _ _ _ | with_reducible refine old_drew ?_ | with_reducible refine old_alloc _ ?_ | with_reducible refine old_row _ (by simp; try omega) ?_ | with_reducible refine old_below (by assumption) ?_
              (try go_wp2_with fail)
              refine hK.out _ _ ?_ (fun hHeld => ?_)
              · (first | exact hS1 | assumption | exact HN.out _ _ (by assumption) (below_alloc (Below.refl _ _) _) | exact HR.out _ _ _ (by assumption) (by first | omega | (simp; try omega)))
              clear hK K
              (try simp only [Act.put, List.setIfInBounds_toArray, List.set_cons_zero, List.set_cons_succ])
              refine wpAnyH_ready (rs := [7]) (by kernel_rfl) (by simp) ?_
              refine AllReadyH.cons (o := { dst := none, op := Op.store 27 (Operand.tmp 8) (Operand.tmp 12), type := 0, pos := "law.go:33", after := #[{ on := 5, ground := Ground.data }, { on := 3, ground := Ground.data }, { on := 6, ground := Ground.chain }, { on := 0, ground := Ground.phase }, { on := 1, ground := Ground.phase }, { on := 2, ground := Ground.phase }, { on := 3, ground := Ground.phase }, { on := 4, ground := Ground.phase }, { on := 5, ground := Ground.phase }, { on := 6, ground := Ground.phase }], guard := none }) rfl (fun K hK => ?_) ?_
              · rw [if_pos (by rfl)]
                refine wp_store_row 27 _ _ rfl _ #[.int .u64 bh, .int .u64 bl] rfl rfl 27 #[.int .u64 0, .int .u64 0] ?_ size27 rfl (one2 _ _) ?_
                · repeat' first | with_reducible exact heap_alloc_new _ _ | with_reducible exact heap_alloc2_new _ _ _ | with_reducible refine old_drew ?_ | with_reducible refine old_alloc _ ?_ | with_reducible refine old_row _ (by simp; try omega) ?_ | with_reducible refine old_below (by assumption) ?_
                (try go_wp2_with fail)
                refine hK.out _ _ ?_ (fun hHeld => ?_)
                · (first | exact hS1 | assumption | exact HN.out _ _ (by assumption) (below_alloc (Below.refl _ _) _) | exact HR.out _ _ _ (by assumption) (by first | omega | (simp; try omega)))
                clear hK K
                (try simp only [Act.put, List.setIfInBounds_toArray, List.set_cons_zero, List.set_cons_succ])
                refine wpAnyH_done (by kernel_rfl) (NoPanic.normal ?_) _
                go_wp2_with fail
                go_meet
                case rel =>
                  refine ⟨_, _, rfl, rfl, Boxes.cons (Boxes.cons (And.left (by assumption)) ?_) ?_⟩
                  · with_reducible refine old_row _ (by simp; try omega) ?_
                    refine setRow_heap _ _ #[.int .u64 0, .int .u64 0] _ 27 (0, 0) ?_
                    repeat' first | with_reducible exact heap_alloc_new _ _ | with_reducible exact heap_alloc2_new _ _ _ | with_reducible refine old_drew ?_ | with_reducible refine old_alloc _ ?_ | with_reducible refine old_row _ (by simp; try omega) ?_ | with_reducible refine old_below (by assumption) ?_
                  · refine setRow_heap _ _ #[.int .u64 0, .int .u64 0] _ 27 (0, 0) ?_
                    repeat' first | with_reducible exact heap_alloc_new _ _ | with_reducible exact heap_alloc2_new _ _ _ | with_reducible refine old_drew ?_ | with_reducible refine old_alloc _ ?_ | with_reducible refine old_row _ (by simp; try omega) ?_ | with_reducible refine old_below (by assumption) ?_
              exact AllReadyH.nil
            exact AllReadyH.nil
          exact AllReadyH.nil
        exact AllReadyH.nil
      refine AllReadyH.cons (o := { dst := some 8, op := Op.alloc 27, type := 0, pos := "law.go:33", after := #[], guard := none }) rfl (fun K hK => ?_) ?_
      · go_simp
        skip
        (try go_wp2_with fail)
        refine hK.out _ _ ?_ (fun hHeld => ?_)
        · (first | exact hS1 | assumption | exact HN.out _ _ (by assumption) (below_alloc (Below.refl _ _) _) | exact HR.out _ _ _ (by assumption) (by first | omega | (simp; try omega)))
        clear hK K
        (try simp only [Act.put, List.setIfInBounds_toArray, List.set_cons_zero, List.set_cons_succ])
        refine wpAnyH_ready (rs := [3, 4]) (by kernel_rfl) (by simp) ?_
        refine AllReadyH.cons (o := { dst := some 12, op := Op.call { callee := Callee.value (Operand.func 21), args := #[Operand.tmp 11], argTypes := #[24] }, type := 27, pos := "law.go:33", after := #[{ on := 2, ground := Ground.data }, { on := 1, ground := Ground.chain }], guard := none }) rfl (fun K hK => ?_) ?_
        · go_simp
          with_reducible refine (as_wv _ _ _).mono ?_
          rintro e w1 ⟨rfl, hb1⟩
          have hS1 := HN.out _ _ (by assumption) hb1
          have hsz := hb1.size
          (try simp only [size_alloc, heap_drew] at hsz)
          (try go_wp2_with fail)
          refine hK.out _ _ ?_ (fun hHeld => ?_)
          · (first | exact hS1 | assumption | exact HN.out _ _ (by assumption) (below_alloc (Below.refl _ _) _) | exact HR.out _ _ _ (by assumption) (by first | omega | (simp; try omega)))
          clear hK K
          (try simp only [Act.put, List.setIfInBounds_toArray, List.set_cons_zero, List.set_cons_succ])
          refine wpAnyH_ready (rs := [4]) (by kernel_rfl) (by simp) ?_
          refine AllReadyH.cons (o := { dst := some 7, op := Op.alloc 27, type := 0, pos := "law.go:33", after := #[], guard := none }) rfl (fun K hK => ?_) ?_
          · go_simp
            skip
            (try go_wp2_with fail)
            refine hK.out _ _ ?_ (fun hHeld => ?_)
            · (first | exact hS1 | assumption | exact HN.out _ _ (by assumption) (below_alloc (Below.refl _ _) _) | exact HR.out _ _ _ (by assumption) (by first | omega | (simp; try omega)))
            clear hK K
            (try simp only [Act.put, List.setIfInBounds_toArray, List.set_cons_zero, List.set_cons_succ])
            refine wpAnyH_ready (rs := [6]) (by kernel_rfl) (by simp) ?_
            refine AllReadyH.cons (o := { dst := none, op := Op.store 27 (Operand.tmp 7) (Operand.tmp 10), type := 0, pos := "law.go:33", after := #[{ on := 4, ground := Ground.data }, { on := 1, ground := Ground.data }, { on := 3, ground := Ground.chain }, { on := 0, ground := Ground.phase }, { on := 1, ground := Ground.phase }, { on := 2, ground := Ground.textOnly Departure.lateStores }, { on := 3, ground := Ground.textOnly Departure.lateStoresUnsure }, { on := 4, ground := Ground.phase }, { on := 5, ground := Ground.phase }], guard := none }) rfl (fun K hK => ?_) ?_
            · rw [if_pos (by rfl)]
              refine wp_store_row 27 _ _ rfl _ #[.int .u64 ah, .int .u64 al] rfl rfl 27 #[.int .u64 0, .int .u64 0] ?_ size27 rfl (one2 _ _) ?_
              · repeat' first | with_reducible exact heap_alloc_new _ _ | with_reducible exact heap_alloc2_new _ _ _ | with_reducible refine old_drew ?_ | with_reducible refine old_alloc _ ?_ | with_reducible refine old_row _ (by simp; try omega) ?_ | with_reducible refine old_below (by assumption) ?_
              (try go_wp2_with fail)
              refine hK.out _ _ ?_ (fun hHeld => ?_)
              · (first | exact hS1 | assumption | exact HN.out _ _ (by assumption) (below_alloc (Below.refl _ _) _) | exact HR.out _ _ _ (by assumption) (by first | omega | (simp; try omega)))
              clear hK K
              (try simp only [Act.put, List.setIfInBounds_toArray, List.set_cons_zero, List.set_cons_succ])
              refine wpAnyH_ready (rs := [7]) (by kernel_rfl) (by simp) ?_
              refine AllReadyH.cons (o := { dst := none, op := Op.store 27 (Operand.tmp 8) (Operand.tmp 12), type := 0, pos := "law.go:33", after := #[{ on := 5, ground := Ground.data }, { on := 3, ground := Ground.data }, { on := 6, ground := Ground.chain }, { on := 0, ground := Ground.phase }, { on := 1, ground := Ground.phase }, { on := 2, ground := Ground.phase }, { on := 3, ground := Ground.phase }, { on := 4, ground := Ground.phase }, { on := 5, ground := Ground.phase }, { on := 6, ground := Ground.phase }], guard := none }) rfl (fun K hK => ?_) ?_
              · rw [if_pos (by rfl)]
                refine wp_store_row 27 _ _ rfl _ #[.int .u64 bh, .int .u64 bl] rfl rfl 27 #[.int .u64 0, .int .u64 0] ?_ size27 rfl (one2 _ _) ?_
                · repeat' first | with_reducible exact heap_alloc_new _ _ | with_reducible exact heap_alloc2_new _ _ _ | with_reducible refine old_drew ?_ | with_reducible refine old_alloc _ ?_ | with_reducible refine old_row _ (by simp; try omega) ?_ | with_reducible refine old_below (by assumption) ?_
                (try go_wp2_with fail)
                refine hK.out _ _ ?_ (fun hHeld => ?_)
                · (first | exact hS1 | assumption | exact HN.out _ _ (by assumption) (below_alloc (Below.refl _ _) _) | exact HR.out _ _ _ (by assumption) (by first | omega | (simp; try omega)))
                clear hK K
                (try simp only [Act.put, List.setIfInBounds_toArray, List.set_cons_zero, List.set_cons_succ])
                refine wpAnyH_done (by kernel_rfl) (NoPanic.normal ?_) _
                go_wp2_with fail
                go_meet
                case rel =>
                  refine ⟨_, _, rfl, rfl, Boxes.cons (Boxes.cons (And.left (by assumption)) ?_) ?_⟩
                  · with_reducible refine old_row _ (by simp; try omega) ?_
                    refine setRow_heap _ _ #[.int .u64 0, .int .u64 0] _ 27 (0, 0) ?_
                    repeat' first | with_reducible exact heap_alloc_new _ _ | with_reducible exact heap_alloc2_new _ _ _ | with_reducible refine old_drew ?_ | with_reducible refine old_alloc _ ?_ | with_reducible refine old_row _ (by simp; try omega) ?_ | with_reducible refine old_below (by assumption) ?_
                  · refine setRow_heap _ _ #[.int .u64 0, .int .u64 0] _ 27 (0, 0) ?_
                    repeat' first | with_reducible exact heap_alloc_new _ _ | with_reducible exact heap_alloc2_new _ _ _ | with_reducible refine old_drew ?_ | with_reducible refine old_alloc _ ?_ | with_reducible refine old_row _ (by simp; try omega) ?_ | with_reducible refine old_below (by assumption) ?_
              exact AllReadyH.nil
            exact AllReadyH.nil
          exact AllReadyH.nil
        refine AllReadyH.cons (o := { dst := some 7, op := Op.alloc 27, type := 0, pos := "law.go:33", after := #[], guard := none }) rfl (fun K hK => ?_) ?_
        · go_simp
          skip
          (try go_wp2_with fail)
          refine hK.out _ _ ?_ (fun hHeld => ?_)
          · (first | exact hS1 | assumption | exact HN.out _ _ (by assumption) (below_alloc (Below.refl _ _) _) | exact HR.out _ _ _ (by assumption) (by first | omega | (simp; try omega)))
          clear hK K
          (try simp only [Act.put, List.setIfInBounds_toArray, List.set_cons_zero, List.set_cons_succ])
          refine wpAnyH_ready (rs := [3]) (by kernel_rfl) (by simp) ?_
          refine AllReadyH.cons (o := { dst := some 12, op := Op.call { callee := Callee.value (Operand.func 21), args := #[Operand.tmp 11], argTypes := #[24] }, type := 27, pos := "law.go:33", after := #[{ on := 2, ground := Ground.data }, { on := 1, ground := Ground.chain }], guard := none }) rfl (fun K hK => ?_) ?_
          · go_simp
            with_reducible refine (as_wv _ _ _).mono ?_
            rintro e w1 ⟨rfl, hb1⟩
            have hS1 := HN.out _ _ (by assumption) hb1
            have hsz := hb1.size
            (try simp only [size_alloc, heap_drew] at hsz)
            (try go_wp2_with fail)
            refine hK.out _ _ ?_ (fun hHeld => ?_)
            · (first | exact hS1 | assumption | exact HN.out _ _ (by assumption) (below_alloc (Below.refl _ _) _) | exact HR.out _ _ _ (by assumption) (by first | omega | (simp; try omega)))
            clear hK K
            (try simp only [Act.put, List.setIfInBounds_toArray, List.set_cons_zero, List.set_cons_succ])
            refine wpAnyH_ready (rs := [6]) (by kernel_rfl) (by simp) ?_
            refine AllReadyH.cons (o := { dst := none, op := Op.store 27 (Operand.tmp 7) (Operand.tmp 10), type := 0, pos := "law.go:33", after := #[{ on := 4, ground := Ground.data }, { on := 1, ground := Ground.data }, { on := 3, ground := Ground.chain }, { on := 0, ground := Ground.phase }, { on := 1, ground := Ground.phase }, { on := 2, ground := Ground.textOnly Departure.lateStores }, { on := 3, ground := Ground.textOnly Departure.lateStoresUnsure }, { on := 4, ground := Ground.phase }, { on := 5, ground := Ground.phase }], guard := none }) rfl (fun K hK => ?_) ?_
            · rw [if_pos (by rfl)]
              refine wp_store_row 27 _ _ rfl _ #[.int .u64 ah, .int .u64 al] rfl rfl 27 #[.int .u64 0, .int .u64 0] ?_ size27 rfl (one2 _ _) ?_
              · repeat' first | with_reducible exact heap_alloc_new _ _ | with_reducible exact heap_alloc2_new _ _ _ | with_reducible refine old_drew ?_ | with_reducible refine old_alloc _ ?_ | with_reducible refine old_row _ (by simp; try omega) ?_ | with_reducible refine old_below (by assumption) ?_
              (try go_wp2_with fail)
              refine hK.out _ _ ?_ (fun hHeld => ?_)
              · (first | exact hS1 | assumption | exact HN.out _ _ (by assumption) (below_alloc (Below.refl _ _) _) | exact HR.out _ _ _ (by assumption) (by first | omega | (simp; try omega)))
              clear hK K
              (try simp only [Act.put, List.setIfInBounds_toArray, List.set_cons_zero, List.set_cons_succ])
              refine wpAnyH_ready (rs := [7]) (by kernel_rfl) (by simp) ?_
              refine AllReadyH.cons (o := { dst := none, op := Op.store 27 (Operand.tmp 8) (Operand.tmp 12), type := 0, pos := "law.go:33", after := #[{ on := 5, ground := Ground.data }, { on := 3, ground := Ground.data }, { on := 6, ground := Ground.chain }, { on := 0, ground := Ground.phase }, { on := 1, ground := Ground.phase }, { on := 2, ground := Ground.phase }, { on := 3, ground := Ground.phase }, { on := 4, ground := Ground.phase }, { on := 5, ground := Ground.phase }, { on := 6, ground := Ground.phase }], guard := none }) rfl (fun K hK => ?_) ?_
              · rw [if_pos (by rfl)]
                refine wp_store_row 27 _ _ rfl _ #[.int .u64 bh, .int .u64 bl] rfl rfl 27 #[.int .u64 0, .int .u64 0] ?_ size27 rfl (one2 _ _) ?_
                · repeat' first | with_reducible exact heap_alloc_new _ _ | with_reducible exact heap_alloc2_new _ _ _ | with_reducible refine old_drew ?_ | with_reducible refine old_alloc _ ?_ | with_reducible refine old_row _ (by simp; try omega) ?_ | with_reducible refine old_below (by assumption) ?_
                (try go_wp2_with fail)
                refine hK.out _ _ ?_ (fun hHeld => ?_)
                · (first | exact hS1 | assumption | exact HN.out _ _ (by assumption) (below_alloc (Below.refl _ _) _) | exact HR.out _ _ _ (by assumption) (by first | omega | (simp; try omega)))
                clear hK K
                (try simp only [Act.put, List.setIfInBounds_toArray, List.set_cons_zero, List.set_cons_succ])
                refine wpAnyH_done (by kernel_rfl) (NoPanic.normal ?_) _
                go_wp2_with fail
                go_meet
                case rel =>
                  refine ⟨_, _, rfl, rfl, Boxes.cons (Boxes.cons (And.left (by assumption)) ?_) ?_⟩
                  · with_reducible refine old_row _ (by simp; try omega) ?_
                    refine setRow_heap _ _ #[.int .u64 0, .int .u64 0] _ 27 (0, 0) ?_
                    repeat' first | with_reducible exact heap_alloc_new _ _ | with_reducible exact heap_alloc2_new _ _ _ | with_reducible refine old_drew ?_ | with_reducible refine old_alloc _ ?_ | with_reducible refine old_row _ (by simp; try omega) ?_ | with_reducible refine old_below (by assumption) ?_
                  · refine setRow_heap _ _ #[.int .u64 0, .int .u64 0] _ 27 (0, 0) ?_
                    repeat' first | with_reducible exact heap_alloc_new _ _ | with_reducible exact heap_alloc2_new _ _ _ | with_reducible refine old_drew ?_ | with_reducible refine old_alloc _ ?_ | with_reducible refine old_row _ (by simp; try omega) ?_ | with_reducible refine old_below (by assumption) ?_
              exact AllReadyH.nil
            exact AllReadyH.nil
          exact AllReadyH.nil
        exact AllReadyH.nil
      exact AllReadyH.nil
    refine AllReadyH.cons (o := { dst := some 7, op := Op.alloc 27, type := 0, pos := "law.go:33", after := #[], guard := none }) rfl (fun K hK => ?_) ?_
    · go_simp
      skip
      (try go_wp2_with fail)
      refine hK.out _ _ ?_ (fun hHeld => ?_)
      · (first | exact hS1 | assumption | exact HN.out _ _ (by assumption) (below_alloc (Below.refl _ _) _) | exact HR.out _ _ _ (by assumption) (by first | omega | (simp; try omega)))
      clear hK K
      (try simp only [Act.put, List.setIfInBounds_toArray, List.set_cons_zero, List.set_cons_succ])
      refine wpAnyH_ready (rs := [1, 5]) (by kernel_rfl) (by simp) ?_
      refine AllReadyH.cons (o := { dst := some 10, op := Op.call { callee := Callee.value (Operand.func 21), args := #[Operand.tmp 9], argTypes := #[24] }, type := 27, pos := "law.go:33", after := #[{ on := 0, ground := Ground.data }], guard := none }) rfl (fun K hK => ?_) ?_
      · go_simp
        with_reducible refine (as_wv _ _ _).mono ?_
        rintro e w1 ⟨rfl, hb1⟩
        have hS1 := HN.out _ _ (by assumption) hb1
        have hsz := hb1.size
        (try simp only [size_alloc, heap_drew] at hsz)
        (try go_wp2_with fail)
        refine hK.out _ _ ?_ (fun hHeld => ?_)
        · (first | exact hS1 | assumption | exact HN.out _ _ (by assumption) (below_alloc (Below.refl _ _) _) | exact HR.out _ _ _ (by assumption) (by first | omega | (simp; try omega)))
        clear hK K
        (try simp only [Act.put, List.setIfInBounds_toArray, List.set_cons_zero, List.set_cons_succ])
        refine wpAnyH_ready (rs := [3, 5]) (by kernel_rfl) (by simp) ?_
        refine AllReadyH.cons (o := { dst := some 12, op := Op.call { callee := Callee.value (Operand.func 21), args := #[Operand.tmp 11], argTypes := #[24] }, type := 27, pos := "law.go:33", after := #[{ on := 2, ground := Ground.data }, { on := 1, ground := Ground.chain }], guard := none }) rfl (fun K hK => ?_) ?_
        · go_simp
          with_reducible refine (as_wv _ _ _).mono ?_
          rintro e w1 ⟨rfl, hb1⟩
          have hS1 := HN.out _ _ (by assumption) hb1
          have hsz := hb1.size
          (try simp only [size_alloc, heap_drew] at hsz)
          (try go_wp2_with fail)
          refine hK.out _ _ ?_ (fun hHeld => ?_)
          · (first | exact hS1 | assumption | exact HN.out _ _ (by assumption) (below_alloc (Below.refl _ _) _) | exact HR.out _ _ _ (by assumption) (by first | omega | (simp; try omega)))
          clear hK K
          (try simp only [Act.put, List.setIfInBounds_toArray, List.set_cons_zero, List.set_cons_succ])
          refine wpAnyH_ready (rs := [5]) (by kernel_rfl) (by simp) ?_
          refine AllReadyH.cons (o := { dst := some 8, op := Op.alloc 27, type := 0, pos := "law.go:33", after := #[], guard := none }) rfl (fun K hK => ?_) ?_
          · go_simp
            skip
            (try go_wp2_with fail)
            refine hK.out _ _ ?_ (fun hHeld => ?_)
            · (first | exact hS1 | assumption | exact HN.out _ _ (by assumption) (below_alloc (Below.refl _ _) _) | exact HR.out _ _ _ (by assumption) (by first | omega | (simp; try omega)))
            clear hK K
            (try simp only [Act.put, List.setIfInBounds_toArray, List.set_cons_zero, List.set_cons_succ])
            refine wpAnyH_ready (rs := [6]) (by kernel_rfl) (by simp) ?_
            refine AllReadyH.cons (o := { dst := none, op := Op.store 27 (Operand.tmp 7) (Operand.tmp 10), type := 0, pos := "law.go:33", after := #[{ on := 4, ground := Ground.data }, { on := 1, ground := Ground.data }, { on := 3, ground := Ground.chain }, { on := 0, ground := Ground.phase }, { on := 1, ground := Ground.phase }, { on := 2, ground := Ground.textOnly Departure.lateStores }, { on := 3, ground := Ground.textOnly Departure.lateStoresUnsure }, { on := 4, ground := Ground.phase }, { on := 5, ground := Ground.phase }], guard := none }) rfl (fun K hK => ?_) ?_
            · rw [if_pos (by rfl)]
              refine wp_store_row 27 _ _ rfl _ #[.int .u64 ah, .int .u64 al] rfl rfl 27 #[.int .u64 0, .int .u64 0] ?_ size27 rfl (one2 _ _) ?_
              · repeat' first | with_reducible exact heap_alloc_new _ _ | with_reducible exact heap_alloc2_new _ _ _ | with_reducible refine old_drew ?_ | with_reducible refine old_alloc _ ?_ | with_reducible refine old_row _ (by simp; try omega) ?_ | with_reducible refine old_below (by assumption) ?_
              (try go_wp2_with fail)
              refine hK.out _ _ ?_ (fun hHeld => ?_)
              · (first | exact hS1 | assumption | exact HN.out _ _ (by assumption) (below_alloc (Below.refl _ _) _) | exact HR.out _ _ _ (by assumption) (by first | omega | (simp; try omega)))
              clear hK K
              (try simp only [Act.put, List.setIfInBounds_toArray, List.set_cons_zero, List.set_cons_succ])
              refine wpAnyH_ready (rs := [7]) (by kernel_rfl) (by simp) ?_
              refine AllReadyH.cons (o := { dst := none, op := Op.store 27 (Operand.tmp 8) (Operand.tmp 12), type := 0, pos := "law.go:33", after := #[{ on := 5, ground := Ground.data }, { on := 3, ground := Ground.data }, { on := 6, ground := Ground.chain }, { on := 0, ground := Ground.phase }, { on := 1, ground := Ground.phase }, { on := 2, ground := Ground.phase }, { on := 3, ground := Ground.phase }, { on := 4, ground := Ground.phase }, { on := 5, ground := Ground.phase }, { on := 6, ground := Ground.phase }], guard := none }) rfl (fun K hK => ?_) ?_
              · rw [if_pos (by rfl)]
                refine wp_store_row 27 _ _ rfl _ #[.int .u64 bh, .int .u64 bl] rfl rfl 27 #[.int .u64 0, .int .u64 0] ?_ size27 rfl (one2 _ _) ?_
                · repeat' first | with_reducible exact heap_alloc_new _ _ | with_reducible exact heap_alloc2_new _ _ _ | with_reducible refine old_drew ?_ | with_reducible refine old_alloc _ ?_ | with_reducible refine old_row _ (by simp; try omega) ?_ | with_reducible refine old_below (by assumption) ?_
                (try go_wp2_with fail)
                refine hK.out _ _ ?_ (fun hHeld => ?_)
                · (first | exact hS1 | assumption | exact HN.out _ _ (by assumption) (below_alloc (Below.refl _ _) _) | exact HR.out _ _ _ (by assumption) (by first | omega | (simp; try omega)))
                clear hK K
                (try simp only [Act.put, List.setIfInBounds_toArray, List.set_cons_zero, List.set_cons_succ])
                refine wpAnyH_done (by kernel_rfl) (NoPanic.normal ?_) _
                go_wp2_with fail
                go_meet
                case rel =>
                  refine ⟨_, _, rfl, rfl, Boxes.cons (Boxes.cons (And.left (by assumption)) ?_) ?_⟩
                  · with_reducible refine old_row _ (by simp; try omega) ?_
                    refine setRow_heap _ _ #[.int .u64 0, .int .u64 0] _ 27 (0, 0) ?_
                    repeat' first | with_reducible exact heap_alloc_new _ _ | with_reducible exact heap_alloc2_new _ _ _ | with_reducible refine old_drew ?_ | with_reducible refine old_alloc _ ?_ | with_reducible refine old_row _ (by simp; try omega) ?_ | with_reducible refine old_below (by assumption) ?_
                  · refine setRow_heap _ _ #[.int .u64 0, .int .u64 0] _ 27 (0, 0) ?_
                    repeat' first | with_reducible exact heap_alloc_new _ _ | with_reducible exact heap_alloc2_new _ _ _ | with_reducible refine old_drew ?_ | with_reducible refine old_alloc _ ?_ | with_reducible refine old_row _ (by simp; try omega) ?_ | with_reducible refine old_below (by assumption) ?_
              exact AllReadyH.nil
            exact AllReadyH.nil
          exact AllReadyH.nil
        refine AllReadyH.cons (o := { dst := some 8, op := Op.alloc 27, type := 0, pos := "law.go:33", after := #[], guard := none }) rfl (fun K hK => ?_) ?_
        · go_simp
          skip
          (try go_wp2_with fail)
          refine hK.out _ _ ?_ (fun hHeld => ?_)
          · (first | exact hS1 | assumption | exact HN.out _ _ (by assumption) (below_alloc (Below.refl _ _) _) | exact HR.out _ _ _ (by assumption) (by first | omega | (simp; try omega)))
          clear hK K
          (try simp only [Act.put, List.setIfInBounds_toArray, List.set_cons_zero, List.set_cons_succ])
          refine wpAnyH_ready (rs := [3]) (by kernel_rfl) (by simp) ?_
          refine AllReadyH.cons (o := { dst := some 12, op := Op.call { callee := Callee.value (Operand.func 21), args := #[Operand.tmp 11], argTypes := #[24] }, type := 27, pos := "law.go:33", after := #[{ on := 2, ground := Ground.data }, { on := 1, ground := Ground.chain }], guard := none }) rfl (fun K hK => ?_) ?_
          · go_simp
            with_reducible refine (as_wv _ _ _).mono ?_
            rintro e w1 ⟨rfl, hb1⟩
            have hS1 := HN.out _ _ (by assumption) hb1
            have hsz := hb1.size
            (try simp only [size_alloc, heap_drew] at hsz)
            (try go_wp2_with fail)
            refine hK.out _ _ ?_ (fun hHeld => ?_)
            · (first | exact hS1 | assumption | exact HN.out _ _ (by assumption) (below_alloc (Below.refl _ _) _) | exact HR.out _ _ _ (by assumption) (by first | omega | (simp; try omega)))
            clear hK K
            (try simp only [Act.put, List.setIfInBounds_toArray, List.set_cons_zero, List.set_cons_succ])
            refine wpAnyH_ready (rs := [6]) (by kernel_rfl) (by simp) ?_
            refine AllReadyH.cons (o := { dst := none, op := Op.store 27 (Operand.tmp 7) (Operand.tmp 10), type := 0, pos := "law.go:33", after := #[{ on := 4, ground := Ground.data }, { on := 1, ground := Ground.data }, { on := 3, ground := Ground.chain }, { on := 0, ground := Ground.phase }, { on := 1, ground := Ground.phase }, { on := 2, ground := Ground.textOnly Departure.lateStores }, { on := 3, ground := Ground.textOnly Departure.lateStoresUnsure }, { on := 4, ground := Ground.phase }, { on := 5, ground := Ground.phase }], guard := none }) rfl (fun K hK => ?_) ?_
            · rw [if_pos (by rfl)]
              refine wp_store_row 27 _ _ rfl _ #[.int .u64 ah, .int .u64 al] rfl rfl 27 #[.int .u64 0, .int .u64 0] ?_ size27 rfl (one2 _ _) ?_
              · repeat' first | with_reducible exact heap_alloc_new _ _ | with_reducible exact heap_alloc2_new _ _ _ | with_reducible refine old_drew ?_ | with_reducible refine old_alloc _ ?_ | with_reducible refine old_row _ (by simp; try omega) ?_ | with_reducible refine old_below (by assumption) ?_
              (try go_wp2_with fail)
              refine hK.out _ _ ?_ (fun hHeld => ?_)
              · (first | exact hS1 | assumption | exact HN.out _ _ (by assumption) (below_alloc (Below.refl _ _) _) | exact HR.out _ _ _ (by assumption) (by first | omega | (simp; try omega)))
              clear hK K
              (try simp only [Act.put, List.setIfInBounds_toArray, List.set_cons_zero, List.set_cons_succ])
              refine wpAnyH_ready (rs := [7]) (by kernel_rfl) (by simp) ?_
              refine AllReadyH.cons (o := { dst := none, op := Op.store 27 (Operand.tmp 8) (Operand.tmp 12), type := 0, pos := "law.go:33", after := #[{ on := 5, ground := Ground.data }, { on := 3, ground := Ground.data }, { on := 6, ground := Ground.chain }, { on := 0, ground := Ground.phase }, { on := 1, ground := Ground.phase }, { on := 2, ground := Ground.phase }, { on := 3, ground := Ground.phase }, { on := 4, ground := Ground.phase }, { on := 5, ground := Ground.phase }, { on := 6, ground := Ground.phase }], guard := none }) rfl (fun K hK => ?_) ?_
              · rw [if_pos (by rfl)]
                refine wp_store_row 27 _ _ rfl _ #[.int .u64 bh, .int .u64 bl] rfl rfl 27 #[.int .u64 0, .int .u64 0] ?_ size27 rfl (one2 _ _) ?_
                · repeat' first | with_reducible exact heap_alloc_new _ _ | with_reducible exact heap_alloc2_new _ _ _ | with_reducible refine old_drew ?_ | with_reducible refine old_alloc _ ?_ | with_reducible refine old_row _ (by simp; try omega) ?_ | with_reducible refine old_below (by assumption) ?_
                (try go_wp2_with fail)
                refine hK.out _ _ ?_ (fun hHeld => ?_)
                · (first | exact hS1 | assumption | exact HN.out _ _ (by assumption) (below_alloc (Below.refl _ _) _) | exact HR.out _ _ _ (by assumption) (by first | omega | (simp; try omega)))
                clear hK K
                (try simp only [Act.put, List.setIfInBounds_toArray, List.set_cons_zero, List.set_cons_succ])
                refine wpAnyH_done (by kernel_rfl) (NoPanic.normal ?_) _
                go_wp2_with fail
                go_meet
                case rel =>
                  refine ⟨_, _, rfl, rfl, Boxes.cons (Boxes.cons (And.left (by assumption)) ?_) ?_⟩
                  · with_reducible refine old_row _ (by simp; try omega) ?_
                    refine setRow_heap _ _ #[.int .u64 0, .int .u64 0] _ 27 (0, 0) ?_
                    repeat' first | with_reducible exact heap_alloc_new _ _ | with_reducible exact heap_alloc2_new _ _ _ | with_reducible refine old_drew ?_ | with_reducible refine old_alloc _ ?_ | with_reducible refine old_row _ (by simp; try omega) ?_ | with_reducible refine old_below (by assumption) ?_
                  · refine setRow_heap _ _ #[.int .u64 0, .int .u64 0] _ 27 (0, 0) ?_
                    repeat' first | with_reducible exact heap_alloc_new _ _ | with_reducible exact heap_alloc2_new _ _ _ | with_reducible refine old_drew ?_ | with_reducible refine old_alloc _ ?_ | with_reducible refine old_row _ (by simp; try omega) ?_ | with_reducible refine old_below (by assumption) ?_
              exact AllReadyH.nil
            exact AllReadyH.nil
          exact AllReadyH.nil
        exact AllReadyH.nil
      refine AllReadyH.cons (o := { dst := some 8, op := Op.alloc 27, type := 0, pos := "law.go:33", after := #[], guard := none }) rfl (fun K hK => ?_) ?_
      · go_simp
        skip
        (try go_wp2_with fail)
        refine hK.out _ _ ?_ (fun hHeld => ?_)
        · (first | exact hS1 | assumption | exact HN.out _ _ (by assumption) (below_alloc (Below.refl _ _) _) | exact HR.out _ _ _ (by assumption) (by first | omega | (simp; try omega)))
        clear hK K
        (try simp only [Act.put, List.setIfInBounds_toArray, List.set_cons_zero, List.set_cons_succ])
        refine wpAnyH_ready (rs := [1]) (by kernel_rfl) (by simp) ?_
        refine AllReadyH.cons (o := { dst := some 10, op := Op.call { callee := Callee.value (Operand.func 21), args := #[Operand.tmp 9], argTypes := #[24] }, type := 27, pos := "law.go:33", after := #[{ on := 0, ground := Ground.data }], guard := none }) rfl (fun K hK => ?_) ?_
        · go_simp
          with_reducible refine (as_wv _ _ _).mono ?_
          rintro e w1 ⟨rfl, hb1⟩
          have hS1 := HN.out _ _ (by assumption) hb1
          have hsz := hb1.size
          (try simp only [size_alloc, heap_drew] at hsz)
          (try go_wp2_with fail)
          refine hK.out _ _ ?_ (fun hHeld => ?_)
          · (first | exact hS1 | assumption | exact HN.out _ _ (by assumption) (below_alloc (Below.refl _ _) _) | exact HR.out _ _ _ (by assumption) (by first | omega | (simp; try omega)))
          clear hK K
          (try simp only [Act.put, List.setIfInBounds_toArray, List.set_cons_zero, List.set_cons_succ])
          refine wpAnyH_ready (rs := [3]) (by kernel_rfl) (by simp) ?_
          refine AllReadyH.cons (o := { dst := some 12, op := Op.call { callee := Callee.value (Operand.func 21), args := #[Operand.tmp 11], argTypes := #[24] }, type := 27, pos := "law.go:33", after := #[{ on := 2, ground := Ground.data }, { on := 1, ground := Ground.chain }], guard := none }) rfl (fun K hK => ?_) ?_
          · go_simp
            with_reducible refine (as_wv _ _ _).mono ?_
            rintro e w1 ⟨rfl, hb1⟩
            have hS1 := HN.out _ _ (by assumption) hb1
            have hsz := hb1.size
            (try simp only [size_alloc, heap_drew] at hsz)
            (try go_wp2_with fail)
            refine hK.out _ _ ?_ (fun hHeld => ?_)
            · (first | exact hS1 | assumption | exact HN.out _ _ (by assumption) (below_alloc (Below.refl _ _) _) | exact HR.out _ _ _ (by assumption) (by first | omega | (simp; try omega)))
            clear hK K
            (try simp only [Act.put, List.setIfInBounds_toArray, List.set_cons_zero, List.set_cons_succ])
            refine wpAnyH_ready (rs := [6]) (by kernel_rfl) (by simp) ?_
            refine AllReadyH.cons (o := { dst := none, op := Op.store 27 (Operand.tmp 7) (Operand.tmp 10), type := 0, pos := "law.go:33", after := #[{ on := 4, ground := Ground.data }, { on := 1, ground := Ground.data }, { on := 3, ground := Ground.chain }, { on := 0, ground := Ground.phase }, { on := 1, ground := Ground.phase }, { on := 2, ground := Ground.textOnly Departure.lateStores }, { on := 3, ground := Ground.textOnly Departure.lateStoresUnsure }, { on := 4, ground := Ground.phase }, { on := 5, ground := Ground.phase }], guard := none }) rfl (fun K hK => ?_) ?_
            · rw [if_pos (by rfl)]
              refine wp_store_row 27 _ _ rfl _ #[.int .u64 ah, .int .u64 al] rfl rfl 27 #[.int .u64 0, .int .u64 0] ?_ size27 rfl (one2 _ _) ?_
              · repeat' first | with_reducible exact heap_alloc_new _ _ | with_reducible exact heap_alloc2_new _ _ _ | with_reducible refine old_drew ?_ | with_reducible refine old_alloc _ ?_ | with_reducible refine old_row _ (by simp; try omega) ?_ | with_reducible refine old_below (by assumption) ?_
              (try go_wp2_with fail)
              refine hK.out _ _ ?_ (fun hHeld => ?_)
              · (first | exact hS1 | assumption | exact HN.out _ _ (by assumption) (below_alloc (Below.refl _ _) _) | exact HR.out _ _ _ (by assumption) (by first | omega | (simp; try omega)))
              clear hK K
              (try simp only [Act.put, List.setIfInBounds_toArray, List.set_cons_zero, List.set_cons_succ])
              refine wpAnyH_ready (rs := [7]) (by kernel_rfl) (by simp) ?_
              refine AllReadyH.cons (o := { dst := none, op := Op.store 27 (Operand.tmp 8) (Operand.tmp 12), type := 0, pos := "law.go:33", after := #[{ on := 5, ground := Ground.data }, { on := 3, ground := Ground.data }, { on := 6, ground := Ground.chain }, { on := 0, ground := Ground.phase }, { on := 1, ground := Ground.phase }, { on := 2, ground := Ground.phase }, { on := 3, ground := Ground.phase }, { on := 4, ground := Ground.phase }, { on := 5, ground := Ground.phase }, { on := 6, ground := Ground.phase }], guard := none }) rfl (fun K hK => ?_) ?_
              · rw [if_pos (by rfl)]
                refine wp_store_row 27 _ _ rfl _ #[.int .u64 bh, .int .u64 bl] rfl rfl 27 #[.int .u64 0, .int .u64 0] ?_ size27 rfl (one2 _ _) ?_
                · repeat' first | with_reducible exact heap_alloc_new _ _ | with_reducible exact heap_alloc2_new _ _ _ | with_reducible refine old_drew ?_ | with_reducible refine old_alloc _ ?_ | with_reducible refine old_row _ (by simp; try omega) ?_ | with_reducible refine old_below (by assumption) ?_
                (try go_wp2_with fail)
                refine hK.out _ _ ?_ (fun hHeld => ?_)
                · (first | exact hS1 | assumption | exact HN.out _ _ (by assumption) (below_alloc (Below.refl _ _) _) | exact HR.out _ _ _ (by assumption) (by first | omega | (simp; try omega)))
                clear hK K
                (try simp only [Act.put, List.setIfInBounds_toArray, List.set_cons_zero, List.set_cons_succ])
                refine wpAnyH_done (by kernel_rfl) (NoPanic.normal ?_) _
                go_wp2_with fail
                go_meet
                case rel =>
                  refine ⟨_, _, rfl, rfl, Boxes.cons (Boxes.cons (And.left (by assumption)) ?_) ?_⟩
                  · with_reducible refine old_row _ (by simp; try omega) ?_
                    refine setRow_heap _ _ #[.int .u64 0, .int .u64 0] _ 27 (0, 0) ?_
                    repeat' first | with_reducible exact heap_alloc_new _ _ | with_reducible exact heap_alloc2_new _ _ _ | with_reducible refine old_drew ?_ | with_reducible refine old_alloc _ ?_ | with_reducible refine old_row _ (by simp; try omega) ?_ | with_reducible refine old_below (by assumption) ?_
                  · refine setRow_heap _ _ #[.int .u64 0, .int .u64 0] _ 27 (0, 0) ?_
                    repeat' first | with_reducible exact heap_alloc_new _ _ | with_reducible exact heap_alloc2_new _ _ _ | with_reducible refine old_drew ?_ | with_reducible refine old_alloc _ ?_ | with_reducible refine old_row _ (by simp; try omega) ?_ | with_reducible refine old_below (by assumption) ?_
              exact AllReadyH.nil
            exact AllReadyH.nil
          exact AllReadyH.nil
        exact AllReadyH.nil
      exact AllReadyH.nil
    refine AllReadyH.cons (o := { dst := some 8, op := Op.alloc 27, type := 0, pos := "law.go:33", after := #[], guard := none }) rfl (fun K hK => ?_) ?_
    · go_simp
      skip
      (try go_wp2_with fail)
      refine hK.out _ _ ?_ (fun hHeld => ?_)
      · (first | exact hS1 | assumption | exact HN.out _ _ (by assumption) (below_alloc (Below.refl _ _) _) | exact HR.out _ _ _ (by assumption) (by first | omega | (simp; try omega)))
      clear hK K
      (try simp only [Act.put, List.setIfInBounds_toArray, List.set_cons_zero, List.set_cons_succ])
      refine wpAnyH_ready (rs := [1, 4]) (by kernel_rfl) (by simp) ?_
      refine AllReadyH.cons (o := { dst := some 10, op := Op.call { callee := Callee.value (Operand.func 21), args := #[Operand.tmp 9], argTypes := #[24] }, type := 27, pos := "law.go:33", after := #[{ on := 0, ground := Ground.data }], guard := none }) rfl (fun K hK => ?_) ?_
      · go_simp
        with_reducible refine (as_wv _ _ _).mono ?_
        rintro e w1 ⟨rfl, hb1⟩
        have hS1 := HN.out _ _ (by assumption) hb1
        have hsz := hb1.size
        (try simp only [size_alloc, heap_drew] at hsz)
        (try go_wp2_with fail)
        refine hK.out _ _ ?_ (fun hHeld => ?_)
        · (first | exact hS1 | assumption | exact HN.out _ _ (by assumption) (below_alloc (Below.refl _ _) _) | exact HR.out _ _ _ (by assumption) (by first | omega | (simp; try omega)))
        clear hK K
        (try simp only [Act.put, List.setIfInBounds_toArray, List.set_cons_zero, List.set_cons_succ])
        refine wpAnyH_ready (rs := [3, 4]) (by kernel_rfl) (by simp) ?_
        refine AllReadyH.cons (o := { dst := some 12, op := Op.call { callee := Callee.value (Operand.func 21), args := #[Operand.tmp 11], argTypes := #[24] }, type := 27, pos := "law.go:33", after := #[{ on := 2, ground := Ground.data }, { on := 1, ground := Ground.chain }], guard := none }) rfl (fun K hK => ?_) ?_
        · go_simp
          with_reducible refine (as_wv _ _ _).mono ?_
          rintro e w1 ⟨rfl, hb1⟩
          have hS1 := HN.out _ _ (by assumption) hb1
          have hsz := hb1.size
          (try simp only [size_alloc, heap_drew] at hsz)
          (try go_wp2_with fail)
          refine hK.out _ _ ?_ (fun hHeld => ?_)
          · (first | exact hS1 | assumption | exact HN.out _ _ (by assumption) (below_alloc (Below.refl _ _) _) | exact HR.out _ _ _ (by assumption) (by first | omega | (simp; try omega)))
          clear hK K
          (try simp only [Act.put, List.setIfInBounds_toArray, List.set_cons_zero, List.set_cons_succ])
          refine wpAnyH_ready (rs := [4]) (by kernel_rfl) (by simp) ?_
          refine AllReadyH.cons (o := { dst := some 7, op := Op.alloc 27, type := 0, pos := "law.go:33", after := #[], guard := none }) rfl (fun K hK => ?_) ?_
          · go_simp
            skip
            (try go_wp2_with fail)
            refine hK.out _ _ ?_ (fun hHeld => ?_)
            · (first | exact hS1 | assumption | exact HN.out _ _ (by assumption) (below_alloc (Below.refl _ _) _) | exact HR.out _ _ _ (by assumption) (by first | omega | (simp; try omega)))
            clear hK K
            (try simp only [Act.put, List.setIfInBounds_toArray, List.set_cons_zero, List.set_cons_succ])
            refine wpAnyH_ready (rs := [6]) (by kernel_rfl) (by simp) ?_
            refine AllReadyH.cons (o := { dst := none, op := Op.store 27 (Operand.tmp 7) (Operand.tmp 10), type := 0, pos := "law.go:33", after := #[{ on := 4, ground := Ground.data }, { on := 1, ground := Ground.data }, { on := 3, ground := Ground.chain }, { on := 0, ground := Ground.phase }, { on := 1, ground := Ground.phase }, { on := 2, ground := Ground.textOnly Departure.lateStores }, { on := 3, ground := Ground.textOnly Departure.lateStoresUnsure }, { on := 4, ground := Ground.phase }, { on := 5, ground := Ground.phase }], guard := none }) rfl (fun K hK => ?_) ?_
            · rw [if_pos (by rfl)]
              refine wp_store_row 27 _ _ rfl _ #[.int .u64 ah, .int .u64 al] rfl rfl 27 #[.int .u64 0, .int .u64 0] ?_ size27 rfl (one2 _ _) ?_
              · repeat' first | with_reducible exact heap_alloc_new _ _ | with_reducible exact heap_alloc2_new _ _ _ | with_reducible refine old_drew ?_ | with_reducible refine old_alloc _ ?_ | with_reducible refine old_row _ (by simp; try omega) ?_ | with_reducible refine old_below (by assumption) ?_
              (try go_wp2_with fail)
              refine hK.out _ _ ?_ (fun hHeld => ?_)
              · (first | exact hS1 | assumption | exact HN.out _ _ (by assumption) (below_alloc (Below.refl _ _) _) | exact HR.out _ _ _ (by assumption) (by first | omega | (simp; try omega)))
              clear hK K
              (try simp only [Act.put, List.setIfInBounds_toArray, List.set_cons_zero, List.set_cons_succ])
              refine wpAnyH_ready (rs := [7]) (by kernel_rfl) (by simp) ?_
              refine AllReadyH.cons (o := { dst := none, op := Op.store 27 (Operand.tmp 8) (Operand.tmp 12), type := 0, pos := "law.go:33", after := #[{ on := 5, ground := Ground.data }, { on := 3, ground := Ground.data }, { on := 6, ground := Ground.chain }, { on := 0, ground := Ground.phase }, { on := 1, ground := Ground.phase }, { on := 2, ground := Ground.phase }, { on := 3, ground := Ground.phase }, { on := 4, ground := Ground.phase }, { on := 5, ground := Ground.phase }, { on := 6, ground := Ground.phase }], guard := none }) rfl (fun K hK => ?_) ?_
              · rw [if_pos (by rfl)]
                refine wp_store_row 27 _ _ rfl _ #[.int .u64 bh, .int .u64 bl] rfl rfl 27 #[.int .u64 0, .int .u64 0] ?_ size27 rfl (one2 _ _) ?_
                · repeat' first | with_reducible exact heap_alloc_new _ _ | with_reducible exact heap_alloc2_new _ _ _ | with_reducible refine old_drew ?_ | with_reducible refine old_alloc _ ?_ | with_reducible refine old_row _ (by simp; try omega) ?_ | with_reducible refine old_below (by assumption) ?_
                (try go_wp2_with fail)
                refine hK.out _ _ ?_ (fun hHeld => ?_)
                · (first | exact hS1 | assumption | exact HN.out _ _ (by assumption) (below_alloc (Below.refl _ _) _) | exact HR.out _ _ _ (by assumption) (by first | omega | (simp; try omega)))
                clear hK K
                (try simp only [Act.put, List.setIfInBounds_toArray, List.set_cons_zero, List.set_cons_succ])
                refine wpAnyH_done (by kernel_rfl) (NoPanic.normal ?_) _
                go_wp2_with fail
                go_meet
                case rel =>
                  refine ⟨_, _, rfl, rfl, Boxes.cons (Boxes.cons (And.left (by assumption)) ?_) ?_⟩
                  · with_reducible refine old_row _ (by simp; try omega) ?_
                    refine setRow_heap _ _ #[.int .u64 0, .int .u64 0] _ 27 (0, 0) ?_
                    repeat' first | with_reducible exact heap_alloc_new _ _ | with_reducible exact heap_alloc2_new _ _ _ | with_reducible refine old_drew ?_ | with_reducible refine old_alloc _ ?_ | with_reducible refine old_row _ (by simp; try omega) ?_ | with_reducible refine old_below (by assumption) ?_
                  · refine setRow_heap _ _ #[.int .u64 0, .int .u64 0] _ 27 (0, 0) ?_
                    repeat' first | with_reducible exact heap_alloc_new _ _ | with_reducible exact heap_alloc2_new _ _ _ | with_reducible refine old_drew ?_ | with_reducible refine old_alloc _ ?_ | with_reducible refine old_row _ (by simp; try omega) ?_ | with_reducible refine old_below (by assumption) ?_
              exact AllReadyH.nil
            exact AllReadyH.nil
          exact AllReadyH.nil
        refine AllReadyH.cons (o := { dst := some 7, op := Op.alloc 27, type := 0, pos := "law.go:33", after := #[], guard := none }) rfl (fun K hK => ?_) ?_
        · go_simp
          skip
          (try go_wp2_with fail)
          refine hK.out _ _ ?_ (fun hHeld => ?_)
          · (first | exact hS1 | assumption | exact HN.out _ _ (by assumption) (below_alloc (Below.refl _ _) _) | exact HR.out _ _ _ (by assumption) (by first | omega | (simp; try omega)))
          clear hK K
          (try simp only [Act.put, List.setIfInBounds_toArray, List.set_cons_zero, List.set_cons_succ])
          refine wpAnyH_ready (rs := [3]) (by kernel_rfl) (by simp) ?_
          refine AllReadyH.cons (o := { dst := some 12, op := Op.call { callee := Callee.value (Operand.func 21), args := #[Operand.tmp 11], argTypes := #[24] }, type := 27, pos := "law.go:33", after := #[{ on := 2, ground := Ground.data }, { on := 1, ground := Ground.chain }], guard := none }) rfl (fun K hK => ?_) ?_
          · go_simp
            with_reducible refine (as_wv _ _ _).mono ?_
            rintro e w1 ⟨rfl, hb1⟩
            have hS1 := HN.out _ _ (by assumption) hb1
            have hsz := hb1.size
            (try simp only [size_alloc, heap_drew] at hsz)
            (try go_wp2_with fail)
            refine hK.out _ _ ?_ (fun hHeld => ?_)
            · (first | exact hS1 | assumption | exact HN.out _ _ (by assumption) (below_alloc (Below.refl _ _) _) | exact HR.out _ _ _ (by assumption) (by first | omega | (simp; try omega)))
            clear hK K
            (try simp only [Act.put, List.setIfInBounds_toArray, List.set_cons_zero, List.set_cons_succ])
            refine wpAnyH_ready (rs := [6]) (by kernel_rfl) (by simp) ?_
            refine AllReadyH.cons (o := { dst := none, op := Op.store 27 (Operand.tmp 7) (Operand.tmp 10), type := 0, pos := "law.go:33", after := #[{ on := 4, ground := Ground.data }, { on := 1, ground := Ground.data }, { on := 3, ground := Ground.chain }, { on := 0, ground := Ground.phase }, { on := 1, ground := Ground.phase }, { on := 2, ground := Ground.textOnly Departure.lateStores }, { on := 3, ground := Ground.textOnly Departure.lateStoresUnsure }, { on := 4, ground := Ground.phase }, { on := 5, ground := Ground.phase }], guard := none }) rfl (fun K hK => ?_) ?_
            · rw [if_pos (by rfl)]
              refine wp_store_row 27 _ _ rfl _ #[.int .u64 ah, .int .u64 al] rfl rfl 27 #[.int .u64 0, .int .u64 0] ?_ size27 rfl (one2 _ _) ?_
              · repeat' first | with_reducible exact heap_alloc_new _ _ | with_reducible exact heap_alloc2_new _ _ _ | with_reducible refine old_drew ?_ | with_reducible refine old_alloc _ ?_ | with_reducible refine old_row _ (by simp; try omega) ?_ | with_reducible refine old_below (by assumption) ?_
              (try go_wp2_with fail)
              refine hK.out _ _ ?_ (fun hHeld => ?_)
              · (first | exact hS1 | assumption | exact HN.out _ _ (by assumption) (below_alloc (Below.refl _ _) _) | exact HR.out _ _ _ (by assumption) (by first | omega | (simp; try omega)))
              clear hK K
              (try simp only [Act.put, List.setIfInBounds_toArray, List.set_cons_zero, List.set_cons_succ])
              refine wpAnyH_ready (rs := [7]) (by kernel_rfl) (by simp) ?_
              refine AllReadyH.cons (o := { dst := none, op := Op.store 27 (Operand.tmp 8) (Operand.tmp 12), type := 0, pos := "law.go:33", after := #[{ on := 5, ground := Ground.data }, { on := 3, ground := Ground.data }, { on := 6, ground := Ground.chain }, { on := 0, ground := Ground.phase }, { on := 1, ground := Ground.phase }, { on := 2, ground := Ground.phase }, { on := 3, ground := Ground.phase }, { on := 4, ground := Ground.phase }, { on := 5, ground := Ground.phase }, { on := 6, ground := Ground.phase }], guard := none }) rfl (fun K hK => ?_) ?_
              · rw [if_pos (by rfl)]
                refine wp_store_row 27 _ _ rfl _ #[.int .u64 bh, .int .u64 bl] rfl rfl 27 #[.int .u64 0, .int .u64 0] ?_ size27 rfl (one2 _ _) ?_
                · repeat' first | with_reducible exact heap_alloc_new _ _ | with_reducible exact heap_alloc2_new _ _ _ | with_reducible refine old_drew ?_ | with_reducible refine old_alloc _ ?_ | with_reducible refine old_row _ (by simp; try omega) ?_ | with_reducible refine old_below (by assumption) ?_
                (try go_wp2_with fail)
                refine hK.out _ _ ?_ (fun hHeld => ?_)
                · (first | exact hS1 | assumption | exact HN.out _ _ (by assumption) (below_alloc (Below.refl _ _) _) | exact HR.out _ _ _ (by assumption) (by first | omega | (simp; try omega)))
                clear hK K
                (try simp only [Act.put, List.setIfInBounds_toArray, List.set_cons_zero, List.set_cons_succ])
                refine wpAnyH_done (by kernel_rfl) (NoPanic.normal ?_) _
                go_wp2_with fail
                go_meet
                case rel =>
                  refine ⟨_, _, rfl, rfl, Boxes.cons (Boxes.cons (And.left (by assumption)) ?_) ?_⟩
                  · with_reducible refine old_row _ (by simp; try omega) ?_
                    refine setRow_heap _ _ #[.int .u64 0, .int .u64 0] _ 27 (0, 0) ?_
                    repeat' first | with_reducible exact heap_alloc_new _ _ | with_reducible exact heap_alloc2_new _ _ _ | with_reducible refine old_drew ?_ | with_reducible refine old_alloc _ ?_ | with_reducible refine old_row _ (by simp; try omega) ?_ | with_reducible refine old_below (by assumption) ?_
                  · refine setRow_heap _ _ #[.int .u64 0, .int .u64 0] _ 27 (0, 0) ?_
                    repeat' first | with_reducible exact heap_alloc_new _ _ | with_reducible exact heap_alloc2_new _ _ _ | with_reducible refine old_drew ?_ | with_reducible refine old_alloc _ ?_ | with_reducible refine old_row _ (by simp; try omega) ?_ | with_reducible refine old_below (by assumption) ?_
              exact AllReadyH.nil
            exact AllReadyH.nil
          exact AllReadyH.nil
        exact AllReadyH.nil
      refine AllReadyH.cons (o := { dst := some 7, op := Op.alloc 27, type := 0, pos := "law.go:33", after := #[], guard := none }) rfl (fun K hK => ?_) ?_
      · go_simp
        skip
        (try go_wp2_with fail)
        refine hK.out _ _ ?_ (fun hHeld => ?_)
        · (first | exact hS1 | assumption | exact HN.out _ _ (by assumption) (below_alloc (Below.refl _ _) _) | exact HR.out _ _ _ (by assumption) (by first | omega | (simp; try omega)))
        clear hK K
        (try simp only [Act.put, List.setIfInBounds_toArray, List.set_cons_zero, List.set_cons_succ])
        refine wpAnyH_ready (rs := [1]) (by kernel_rfl) (by simp) ?_
        refine AllReadyH.cons (o := { dst := some 10, op := Op.call { callee := Callee.value (Operand.func 21), args := #[Operand.tmp 9], argTypes := #[24] }, type := 27, pos := "law.go:33", after := #[{ on := 0, ground := Ground.data }], guard := none }) rfl (fun K hK => ?_) ?_
        · go_simp
          with_reducible refine (as_wv _ _ _).mono ?_
          rintro e w1 ⟨rfl, hb1⟩
          have hS1 := HN.out _ _ (by assumption) hb1
          have hsz := hb1.size
          (try simp only [size_alloc, heap_drew] at hsz)
          (try go_wp2_with fail)
          refine hK.out _ _ ?_ (fun hHeld => ?_)
          · (first | exact hS1 | assumption | exact HN.out _ _ (by assumption) (below_alloc (Below.refl _ _) _) | exact HR.out _ _ _ (by assumption) (by first | omega | (simp; try omega)))
          clear hK K
          (try simp only [Act.put, List.setIfInBounds_toArray, List.set_cons_zero, List.set_cons_succ])
          refine wpAnyH_ready (rs := [3]) (by kernel_rfl) (by simp) ?_
          refine AllReadyH.cons (o := { dst := some 12, op := Op.call { callee := Callee.value (Operand.func 21), args := #[Operand.tmp 11], argTypes := #[24] }, type := 27, pos := "law.go:33", after := #[{ on := 2, ground := Ground.data }, { on := 1, ground := Ground.chain }], guard := none }) rfl (fun K hK => ?_) ?_
          · go_simp
            with_reducible refine (as_wv _ _ _).mono ?_
            rintro e w1 ⟨rfl, hb1⟩
            have hS1 := HN.out _ _ (by assumption) hb1
            have hsz := hb1.size
            (try simp only [size_alloc, heap_drew] at hsz)
            (try go_wp2_with fail)
            refine hK.out _ _ ?_ (fun hHeld => ?_)
            · (first | exact hS1 | assumption | exact HN.out _ _ (by assumption) (below_alloc (Below.refl _ _) _) | exact HR.out _ _ _ (by assumption) (by first | omega | (simp; try omega)))
            clear hK K
            (try simp only [Act.put, List.setIfInBounds_toArray, List.set_cons_zero, List.set_cons_succ])
            refine wpAnyH_ready (rs := [6]) (by kernel_rfl) (by simp) ?_
            refine AllReadyH.cons (o := { dst := none, op := Op.store 27 (Operand.tmp 7) (Operand.tmp 10), type := 0, pos := "law.go:33", after := #[{ on := 4, ground := Ground.data }, { on := 1, ground := Ground.data }, { on := 3, ground := Ground.chain }, { on := 0, ground := Ground.phase }, { on := 1, ground := Ground.phase }, { on := 2, ground := Ground.textOnly Departure.lateStores }, { on := 3, ground := Ground.textOnly Departure.lateStoresUnsure }, { on := 4, ground := Ground.phase }, { on := 5, ground := Ground.phase }], guard := none }) rfl (fun K hK => ?_) ?_
            · rw [if_pos (by rfl)]
              refine wp_store_row 27 _ _ rfl _ #[.int .u64 ah, .int .u64 al] rfl rfl 27 #[.int .u64 0, .int .u64 0] ?_ size27 rfl (one2 _ _) ?_
              · repeat' first | with_reducible exact heap_alloc_new _ _ | with_reducible exact heap_alloc2_new _ _ _ | with_reducible refine old_drew ?_ | with_reducible refine old_alloc _ ?_ | with_reducible refine old_row _ (by simp; try omega) ?_ | with_reducible refine old_below (by assumption) ?_
              (try go_wp2_with fail)
              refine hK.out _ _ ?_ (fun hHeld => ?_)
              · (first | exact hS1 | assumption | exact HN.out _ _ (by assumption) (below_alloc (Below.refl _ _) _) | exact HR.out _ _ _ (by assumption) (by first | omega | (simp; try omega)))
              clear hK K
              (try simp only [Act.put, List.setIfInBounds_toArray, List.set_cons_zero, List.set_cons_succ])
              refine wpAnyH_ready (rs := [7]) (by kernel_rfl) (by simp) ?_
              refine AllReadyH.cons (o := { dst := none, op := Op.store 27 (Operand.tmp 8) (Operand.tmp 12), type := 0, pos := "law.go:33", after := #[{ on := 5, ground := Ground.data }, { on := 3, ground := Ground.data }, { on := 6, ground := Ground.chain }, { on := 0, ground := Ground.phase }, { on := 1, ground := Ground.phase }, { on := 2, ground := Ground.phase }, { on := 3, ground := Ground.phase }, { on := 4, ground := Ground.phase }, { on := 5, ground := Ground.phase }, { on := 6, ground := Ground.phase }], guard := none }) rfl (fun K hK => ?_) ?_
              · rw [if_pos (by rfl)]
                refine wp_store_row 27 _ _ rfl _ #[.int .u64 bh, .int .u64 bl] rfl rfl 27 #[.int .u64 0, .int .u64 0] ?_ size27 rfl (one2 _ _) ?_
                · repeat' first | with_reducible exact heap_alloc_new _ _ | with_reducible exact heap_alloc2_new _ _ _ | with_reducible refine old_drew ?_ | with_reducible refine old_alloc _ ?_ | with_reducible refine old_row _ (by simp; try omega) ?_ | with_reducible refine old_below (by assumption) ?_
                (try go_wp2_with fail)
                refine hK.out _ _ ?_ (fun hHeld => ?_)
                · (first | exact hS1 | assumption | exact HN.out _ _ (by assumption) (below_alloc (Below.refl _ _) _) | exact HR.out _ _ _ (by assumption) (by first | omega | (simp; try omega)))
                clear hK K
                (try simp only [Act.put, List.setIfInBounds_toArray, List.set_cons_zero, List.set_cons_succ])
                refine wpAnyH_done (by kernel_rfl) (NoPanic.normal ?_) _
                go_wp2_with fail
                go_meet
                case rel =>
                  refine ⟨_, _, rfl, rfl, Boxes.cons (Boxes.cons (And.left (by assumption)) ?_) ?_⟩
                  · with_reducible refine old_row _ (by simp; try omega) ?_
                    refine setRow_heap _ _ #[.int .u64 0, .int .u64 0] _ 27 (0, 0) ?_
                    repeat' first | with_reducible exact heap_alloc_new _ _ | with_reducible exact heap_alloc2_new _ _ _ | with_reducible refine old_drew ?_ | with_reducible refine old_alloc _ ?_ | with_reducible refine old_row _ (by simp; try omega) ?_ | with_reducible refine old_below (by assumption) ?_
                  · refine setRow_heap _ _ #[.int .u64 0, .int .u64 0] _ 27 (0, 0) ?_
                    repeat' first | with_reducible exact heap_alloc_new _ _ | with_reducible exact heap_alloc2_new _ _ _ | with_reducible refine old_drew ?_ | with_reducible refine old_alloc _ ?_ | with_reducible refine old_row _ (by simp; try omega) ?_ | with_reducible refine old_below (by assumption) ?_
              exact AllReadyH.nil
            exact AllReadyH.nil
          exact AllReadyH.nil
        exact AllReadyH.nil
      exact AllReadyH.nil
    exact AllReadyH.nil
  case rest =>
    obtain ⟨b7, b8, rfl, rfl, hX⟩ := hcut
    have HX2 := Lib.hid hX
    clear hX HX0
    generalize wc = w2 at *
    go_wp2_with fail
    have HNk : ∀ W, Boxes w W [(b8, 27, bh, bl), (b7, 27, ah, al), (w.heap.size + 1, 24, bh, bl), (w.heap.size, 24, ah, al)] → (Boxes w W [(b8, 27, bh, bl), (b7, 27, ah, al), (w.heap.size + 1, 24, bh, bl), (w.heap.size, 24, ah, al)] ∧ (W.cell? ⟨b8, 0, none⟩ = some (.int .u64 bh) ∧ W.cell? ⟨b8, 1, none⟩ = some (.int .u64 bl)) ∧ (W.cell? ⟨b7, 0, none⟩ = some (.int .u64 ah) ∧ W.cell? ⟨b7, 1, none⟩ = some (.int .u64 al)) ∧ (W.cell? ⟨w.heap.size + 1, 0, none⟩ = some (.int .u64 bh) ∧ W.cell? ⟨w.heap.size + 1, 1, none⟩ = some (.int .u64 bl)) ∧ (W.cell? ⟨w.heap.size, 0, none⟩ = some (.int .u64 ah) ∧ W.cell? ⟨w.heap.size, 1, none⟩ = some (.int .u64 al))) := fun W h => ⟨h, two_cells (h.all (b8, 27, bh, bl) (by simp)), two_cells (h.all (b7, 27, ah, al) (by simp)), two_cells (h.all (w.heap.size + 1, 24, bh, bl) (by simp)), two_cells (h.all (w.heap.size, 24, ah, al) (by simp))⟩
    have HN : Hid (∀ W V, (Boxes w W [(b8, 27, bh, bl), (b7, 27, ah, al), (w.heap.size + 1, 24, bh, bl), (w.heap.size, 24, ah, al)] ∧ (W.cell? ⟨b8, 0, none⟩ = some (.int .u64 bh) ∧ W.cell? ⟨b8, 1, none⟩ = some (.int .u64 bl)) ∧ (W.cell? ⟨b7, 0, none⟩ = some (.int .u64 ah) ∧ W.cell? ⟨b7, 1, none⟩ = some (.int .u64 al)) ∧ (W.cell? ⟨w.heap.size + 1, 0, none⟩ = some (.int .u64 bh) ∧ W.cell? ⟨w.heap.size + 1, 1, none⟩ = some (.int .u64 bl)) ∧ (W.cell? ⟨w.heap.size, 0, none⟩ = some (.int .u64 ah) ∧ W.cell? ⟨w.heap.size, 1, none⟩ = some (.int .u64 al))) → Below W.heap.size W V → (Boxes w V [(b8, 27, bh, bl), (b7, 27, ah, al), (w.heap.size + 1, 24, bh, bl), (w.heap.size, 24, ah, al)] ∧ (V.cell? ⟨b8, 0, none⟩ = some (.int .u64 bh) ∧ V.cell? ⟨b8, 1, none⟩ = some (.int .u64 bl)) ∧ (V.cell? ⟨b7, 0, none⟩ = some (.int .u64 ah) ∧ V.cell? ⟨b7, 1, none⟩ = some (.int .u64 al)) ∧ (V.cell? ⟨w.heap.size + 1, 0, none⟩ = some (.int .u64 bh) ∧ V.cell? ⟨w.heap.size + 1, 1, none⟩ = some (.int .u64 bl)) ∧ (V.cell? ⟨w.heap.size, 0, none⟩ = some (.int .u64 ah) ∧ V.cell? ⟨w.heap.size, 1, none⟩ = some (.int .u64 al)))) := fun W V h hb => HNk _ (h.1.next hb)
    have HF : Hid (∀ W, (Boxes w W [(b8, 27, bh, bl), (b7, 27, ah, al), (w.heap.size + 1, 24, bh, bl), (w.heap.size, 24, ah, al)] ∧ (W.cell? ⟨b8, 0, none⟩ = some (.int .u64 bh) ∧ W.cell? ⟨b8, 1, none⟩ = some (.int .u64 bl)) ∧ (W.cell? ⟨b7, 0, none⟩ = some (.int .u64 ah) ∧ W.cell? ⟨b7, 1, none⟩ = some (.int .u64 al)) ∧ (W.cell? ⟨w.heap.size + 1, 0, none⟩ = some (.int .u64 bh) ∧ W.cell? ⟨w.heap.size + 1, 1, none⟩ = some (.int .u64 bl)) ∧ (W.cell? ⟨w.heap.size, 0, none⟩ = some (.int .u64 ah) ∧ W.cell? ⟨w.heap.size, 1, none⟩ = some (.int .u64 al))) → Below w.heap.size w W) := fun W h => h.1.below
    have hS0 := HNk _ HX2.out
    clear HNk HX2
    go_region_held3 (fun W => Boxes w W [(b8, 27, bh, bl), (b7, 27, ah, al), (w.heap.size + 1, 24, bh, bl), (w.heap.size, 24, ah, al)] ∧ (W.cell? ⟨b8, 0, none⟩ = some (.int .u64 bh) ∧ W.cell? ⟨b8, 1, none⟩ = some (.int .u64 bl)) ∧ (W.cell? ⟨b7, 0, none⟩ = some (.int .u64 ah) ∧ W.cell? ⟨b7, 1, none⟩ = some (.int .u64 al)) ∧ (W.cell? ⟨w.heap.size + 1, 0, none⟩ = some (.int .u64 bh) ∧ W.cell? ⟨w.heap.size + 1, 1, none⟩ = some (.int .u64 bl)) ∧ (W.cell? ⟨w.heap.size, 0, none⟩ = some (.int .u64 ah) ∧ W.cell? ⟨w.heap.size, 1, none⟩ = some (.int .u64 al))) (first | assumption | exact HN.out _ _ (by assumption) (Below.refl _ _).drew)
      (first
        | (go_at_call 30; (with_reducible refine (C1.out _).mono ?_); rintro e w1 ⟨rfl, hb1⟩; have hS1 := HN.out _ _ (by assumption) hb1; clear hb1)
        | (go_at_call 21; (with_reducible refine (as_wv _ _ _).mono ?_); rintro e w1 ⟨rfl, hb1⟩; have hS1 := HN.out _ _ (by assumption) hb1; clear hb1)
        | (go_at_call 31; (with_reducible refine (C2.out _).mono ?_); rintro e w1 ⟨rfl, hb1⟩; have hS1 := HN.out _ _ (by assumption) hb1; clear hb1)
        | (go_at_call 32; (with_reducible refine (C3.out _).mono ?_); rintro e w1 ⟨rfl, hb1⟩; have hS1 := HN.out _ _ (by assumption) hb1; clear hb1)
        | (go_at_call 33; (with_reducible refine (C4.out _).mono ?_); rintro e w1 ⟨rfl, hb1⟩; have hS1 := HN.out _ _ (by assumption) hb1; clear hb1)
        | (go_at_call 34; (with_reducible refine (C5.out _).mono ?_); rintro e w1 ⟨rfl, hb1⟩; have hS1 := HN.out _ _ (by assumption) hb1; clear hb1)
        | (go_at_call 35; (with_reducible refine (C6.out _).mono ?_); rintro e w1 ⟨rfl, hb1⟩; have hS1 := HN.out _ _ (by assumption) hb1; clear hb1)
        | (go_at_call 36; (with_reducible refine (C7.out _).mono ?_); rintro e w1 ⟨rfl, hb1⟩; have hS1 := HN.out _ _ (by assumption) hb1; clear hb1)
        | (go_at_call 35; (with_reducible refine (C8.out _).mono ?_); rintro e w1 ⟨rfl, hb1⟩; have hS1 := HN.out _ _ (by assumption) hb1; clear hb1))
    go_wp2_with fail
    go_region_held3 (fun W => Boxes w W [(b8, 27, bh, bl), (b7, 27, ah, al), (w.heap.size + 1, 24, bh, bl), (w.heap.size, 24, ah, al)] ∧ (W.cell? ⟨b8, 0, none⟩ = some (.int .u64 bh) ∧ W.cell? ⟨b8, 1, none⟩ = some (.int .u64 bl)) ∧ (W.cell? ⟨b7, 0, none⟩ = some (.int .u64 ah) ∧ W.cell? ⟨b7, 1, none⟩ = some (.int .u64 al)) ∧ (W.cell? ⟨w.heap.size + 1, 0, none⟩ = some (.int .u64 bh) ∧ W.cell? ⟨w.heap.size + 1, 1, none⟩ = some (.int .u64 bl)) ∧ (W.cell? ⟨w.heap.size, 0, none⟩ = some (.int .u64 ah) ∧ W.cell? ⟨w.heap.size, 1, none⟩ = some (.int .u64 al))) (first | assumption | exact HN.out _ _ (by assumption) (Below.refl _ _).drew)
      (first
        | (go_at_call 24; (with_reducible refine (alive_any _).mono ?_); rintro e w1 ⟨rfl, hb1⟩; have hS1 := HN.out _ _ (by assumption) hb1; clear hb1)
        | (go_at_call 37; (with_reducible refine (C9.out _).mono ?_); rintro e w1 ⟨rfl, hb1⟩; have hS1 := HN.out _ _ (by assumption) hb1; clear hb1)
        | (go_at_call 21; (with_reducible refine (as_wv _ _ _).mono ?_); rintro e w1 ⟨rfl, hb1⟩; have hS1 := HN.out _ _ (by assumption) hb1; clear hb1)
        | (go_at_call 38; (with_reducible refine (C10.out _).mono ?_); rintro e w1 ⟨rfl, hb1⟩; have hS1 := HN.out _ _ (by assumption) hb1; clear hb1)
        | (go_at_call 39; (with_reducible refine (C11.out _).mono ?_); rintro e w1 ⟨rfl, hb1⟩; have hS1 := HN.out _ _ (by assumption) hb1; clear hb1)
        | (go_at_call 35; (with_reducible refine (C12.out _).mono ?_); rintro e w1 ⟨rfl, hb1⟩; have hS1 := HN.out _ _ (by assumption) hb1; clear hb1)
        | (go_at_call 40; (with_reducible refine (C13.out _).mono ?_); rintro e w1 ⟨rfl, hb1⟩; have hS1 := HN.out _ _ (by assumption) hb1; clear hb1)
        | (go_at_call 41; (with_reducible refine (C14.out _).mono ?_); rintro e w1 ⟨rfl, hb1⟩; have hS1 := HN.out _ _ (by assumption) hb1; clear hb1)
        | (go_at_call 42; (with_reducible refine (C15.out _).mono ?_); rintro e w1 ⟨rfl, hb1⟩; have hS1 := HN.out _ _ (by assumption) hb1; clear hb1)
        | (go_at_call 43; (with_reducible refine (C16.out _).mono ?_); rintro e w1 ⟨rfl, hb1⟩; have hS1 := HN.out _ _ (by assumption) hb1; clear hb1))
    all_goals (go_wp2_with fail; go_ret)
    all_goals exact ⟨by simp, HF.out _ (by assumption)⟩

theorem wbits_any (a b : Nat) (ha : a < MM) (hb : b < MM) (n : Int) (hn : n ≤ 9223372036854775807) (w : World) :
    Calls Try.prog 7 #[W a, W b, .int .i64 n] w fun e w' => e = .returned (.bool true) ∧ Below w.heap.size w w' :=
  wbits_walk (a / M) (a % M) (b / M) (b % M) _ _ _ _ _ _ _ _ _ _ _ _ _ n _
    (fun w => left_any a ha n w) (fun w => refleft_any a ha n hn w) (fun w => right_any a ha n w) (fun w => refright2_any a ha n hn w) (fun w => and_any a b ha hb w) (fun w => refboth_any a b ha hb false w)
    (fun w => or_any_w a b ha hb w) (fun w => refboth_any a b ha hb true w) (fun w => mask_any n w) (fun w => refmask_any n w) (fun w => top_any a ha n w) (fun w => refboth_any a _ ha (maskN_lt _) false w)
    (fun w => bit_any a ha n w) (fun w => refbit_any a ha n w) (fun w => same_any a b ha hb w) (fun w => refsame_any a b ha hb w) w

end Go.Proofs.Ytcaeaepnobbjlaa

