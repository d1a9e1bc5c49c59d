import Derived.Test.YtcaeaepnobbjlaaU
import Derived.Test.YtcaeaepnobbjlaaXe
namespace Go.Proofs.Ytcaeaepnobbjlaa
set_option linter.unusedVariables false
set_option linter.unusedSimpArgs false
open Go.RowKit

theorem Boxes.drew {w W : World} {bs : List (Nat × Nat × Nat × Nat)} (h : Boxes w W bs) : Boxes w W.drew bs := h.next ⟨rfl, rfl, rfl, Nat.le_refl _, fun _ _ => rfl⟩

set_option maxRecDepth 100000 in
set_option maxHeartbeats 4000000 in
theorem div_zero_walk (h l : Nat) (w : World) :
    Calls Try.prog 65 #[wv h l, .int .u64 (0 : Nat)] w fun e w' => e = .returned (.tuple #[wv 0 0, .int .u64 (0 : Nat)]) ∧ Below w.heap.size w w' := by
  go_enter Try.func65, Try.ntmps65
  go_wp2_with fail
  exact bodyPost_ret (v := .tuple #[wv 0 0, .int .u64 (0 : Nat)]) (by simp [results, Try.results65, go_sem]) rfl ⟨rfl, ((Below.refl _ _).alloc (Nat.le_refl _) _).alloc (by simp) _⟩

set_option maxRecDepth 100000 in
set_option maxHeartbeats 4000000 in
theorem div_walk (h l d q1 r1 q2 r2 : Nat) (hd : 1 ≤ d) (e1 : IntKind.u64.wrap ((h : Int) / d) = q1) (e2 : (h : Int) % d = r1)
    (c : ∀ w, Calls Try.prog 81 #[.int .u64 r1, .int .u64 l, .int .u64 d] w fun e w' => e = .returned (.tuple #[.int .u64 q2, .int .u64 r2]) ∧ Below w.heap.size w w') (w : World) :
    Calls Try.prog 65 #[wv h l, .int .u64 d] w fun e w' => e = .returned (.tuple #[wv q1 q2, .int .u64 r2]) ∧ Below w.heap.size w w' := by
  have d1 : ((d : Int) == 0) = false := by simp; omega
  have d2 : (d : Int) ≠ 0 := by omega
  have C := Lib.hid c
  clear hd c
  go_enter Try.func65, Try.ntmps65
  go_wp2_with fail
  have hX := ((Boxes.nil w).new 24 h l).new 24 0 0
  simp only [size_alloc, Int.natCast_zero] at hX
  generalize (w.alloc (.cells #[.int .u64 h, .int .u64 l] 24)).alloc (.cells #[.int .u64 0, .int .u64 0] 24) = w0 at *
  have HX0 : Hid (Boxes w w0 [(w.heap.size + 1, 24, 0, 0), (w.heap.size, 24, h, l)]) := hX
  clear hX
  obtain ⟨⟨r0, s0⟩, -, -⟩ := HX0.out.at (w.heap.size) 24 h l (by simp)
  go_region
  go_wp2_with (first
    | (go_at_call 81; (with_reducible refine (C.out _).mono ?_); rintro e w1 ⟨rfl, hb1⟩
       have HY1 := Lib.hid (HX0.out.drew.next hb1)
       clear hb1)
    | (refine wpList_store_row rfl 24 _ _ rfl (w.heap.size + 1) #[.int .u64 q1, .int .u64 q2] rfl rfl 24 #[.int .u64 0, .int .u64 0] (HY1.out.all (w.heap.size + 1, 24, 0, 0) (by simp)) size24 rfl (one2 _ _) ?_))
  obtain ⟨p0, p1⟩ := two_cells (setRow_heap _ _ #[.int .u64 0, .int .u64 0] #[.int .u64 q1, .int .u64 q2] 24 (0, 0) (HY1.out.all (w.heap.size + 1, 24, 0, 0) (by simp)))
  have hB := below_setRow HY1.out.below (w.heap.size + 1) #[.int .u64 q1, .int .u64 q2] (by omega)
  generalize w1.setRow (w.heap.size + 1) #[.int .u64 q1, .int .u64 q2] = W1 at *
  exact bodyPost_ret (v := .tuple #[wv q1 q2, .int .u64 r2]) (by simp [results, Try.results65, go_sem, p0, p1]) rfl ⟨rfl, hB⟩

theorem div_num (n d : Nat) (hn : n < MM) (hd : 1 ≤ d) :
    W (n / d) = wv (n / M / d) (((n / M % d) * M + n % M) / d) ∧ ((n / M % d) * M + n % M) % d = n % d ∧ ((n / M % d) * M + n % M) / d < M := by
  have hM : 0 < M := by rw [M_eq]; omega
  have e1 := Nat.div_add_mod' n M
  have e2 := Nat.div_add_mod' (n / M) d
  have hl : n % M < M := Nat.mod_lt _ hM
  have hr : n / M % d < d := Nat.mod_lt _ hd
  generalize n / M = h at *
  generalize n % M = l at *
  generalize h / d = q at *
  generalize h % d = r at *
  subst e2
  have e3 : n = (q * M) * d + (r * M + l) := by rw [← e1, Nat.add_mul, Nat.mul_right_comm]; omega
  have hq : (r * M + l) / d < M := by
    rw [Nat.div_lt_iff_lt_mul hd]
    have := Nat.mul_le_mul_right M (show r + 1 ≤ d from hr)
    rw [Nat.add_mul, Nat.one_mul, Nat.mul_comm d] at this
    omega
  have e4 : n / d = q * M + (r * M + l) / d := by rw [e3, Nat.mul_comm, Nat.mul_add_div hd]
  refine ⟨?_, ?_, hq⟩
  · rw [e4, wv_W q _ hq]
  · rw [e3, Nat.mul_comm (q * M) d, Nat.mul_add_mod]
/-- The quotient's and the rest's contract. -/
theorem div_any (n d : Nat) (hn : n < MM) (hd : d < M) (w : World) :
    Calls Try.prog 65 #[W n, .int .u64 d] w fun e w' => e = .returned (.tuple #[if d = 0 then W 0 else W (n / d), .int .u64 ((if d = 0 then 0 else n % d : Nat) : Int)]) ∧ Below w.heap.size w w' := by
  by_cases h : d = 0
  · subst h
    rw [if_pos rfl, if_pos rfl]
    exact div_zero_walk (n / M) (n % M) w
  · rw [if_neg h, if_neg h]
    have hM : 0 < M := by rw [M_eq]; omega
    obtain ⟨g1, g2, g3⟩ := div_num n d hn (by omega)
    have hl : n % M < M := Nat.mod_lt _ hM
    have hh : n / M < M := by rw [Nat.div_lt_iff_lt_mul hM, MM_MM]; exact hn
    rw [g1, ← g2]
    refine div_walk (n / M) (n % M) d (n / M / d) (n / M % d) _ _ (by omega) ?_ ?_ (fun w => div64_any _ _ d hd (Nat.mod_lt _ (by omega)) hl w) w
    · rw [← Int.natCast_ediv]; exact wrapq _ (Nat.lt_of_le_of_lt (Nat.div_le_self _ _) hh)
    · rw [← Int.natCast_emod]

set_option maxRecDepth 100000 in
theorem least_zero (a b : Int) (n : Nat) (h : a < 1 ∨ b < a) (w : World) : Calls Try.prog 61 #[.int .i64 a, .int .i64 b, .int .u64 n] w fun e w' => e = .returned (.int .u64 (0 : Nat)) ∧ Below w.heap.size w w' := by
  by_cases h1 : a < 1
  · have hd : decide (a < 1) = true := decide_eq_true h1
    clear h h1
    go_enter Try.func61, Try.ntmps61
    go_wp2
    go_ret
    exact ⟨rfl, Below.refl _ _⟩
  · have h2 : b < a := by omega
    have hd : decide (a < 1) = false := decide_eq_false (by omega)
    have he : decide (b < a) = true := decide_eq_true h2
    clear h h1 h2
    go_enter Try.func61, Try.ntmps61
    go_wp2
    go_ret
    exact ⟨rfl, Below.refl _ _⟩
set_option maxRecDepth 100000 in
set_option maxHeartbeats 4000000 in
theorem least_walk (A B n ph pl qh ql rest sh sl r : Nat) (o : Bool) (hA : 1 ≤ A) (hB : A ≤ B) (eA : IntKind.u64.wrap (A : Int) = A) (eB : IntKind.u64.wrap (B : Int) = B)
    (c1 : ∀ w, Calls Try.prog 28 #[.int .u64 A, .int .u64 n] w fun e w' => e = .returned (wv ph pl) ∧ Below w.heap.size w w')
    (c2 : ∀ w, Calls Try.prog 65 #[wv ph pl, .int .u64 B] w fun e w' => e = .returned (.tuple #[wv qh ql, .int .u64 rest]) ∧ Below w.heap.size w w')
    (c4 : ∀ w, Calls Try.prog 19 #[wv qh ql, .agg #[.int .u64 0, .int .u64 1]] w fun e w' => e = .returned (.tuple #[wv sh sl, .bool o]) ∧ Below w.heap.size w w')
    (hr : (0 < rest ∧ r = sl) ∨ (rest = 0 ∧ r = ql)) (w : World) :
    Calls Try.prog 61 #[.int .i64 A, .int .i64 B, .int .u64 n] w fun e w' => e = .returned (.int .u64 r) ∧ Below w.heap.size w w' := by
  have hd : decide ((A : Int) < 1) = false := decide_eq_false (by omega)
  have he : decide (B < A) = false := decide_eq_false (by omega)
  have he2 : decide ((B : Int) < A) = false := decide_eq_false (by omega)
  have C1 := Lib.hid c1
  have C2 := Lib.hid c2
  have C4 := Lib.hid c4
  have HX0 : Hid (Boxes w w []) := Boxes.nil w
  clear c1 c2 c4 hA hB
  rcases hr with ⟨hr, hs⟩ | ⟨hr, hs⟩ <;> subst r
  · have hg : decide (0 < rest) = true := decide_eq_true hr
    clear hr
    go_enter Try.func61, Try.ntmps61
    go_wp2_with (first
      | (go_at_call 28; (with_reducible refine (C1.out _).mono ?_); rintro e v1 ⟨rfl, hb1⟩
         have HY1 := Lib.hid (HX0.out.next hb1)
         clear hb1)
      | (go_at_call 65; (with_reducible refine (C2.out _).mono ?_); rintro e v2 ⟨rfl, hb1⟩
         have HY2 := Lib.hid (HY1.out.next hb1)
         clear hb1)
      | (obtain ⟨w3, hw⟩ : ∃ w3, v2.alloc (.cells #[.int .u64 qh, .int .u64 ql] 24) = w3 := ⟨_, rfl⟩
         rewrite [hw]
         have HX3 : Hid (Boxes w w3 [(v2.heap.size, 24, qh, ql)]) := by rewrite [← hw]; exact HY2.out.new 24 qh ql
         have HV : Hid (w.heap.size ≤ v2.heap.size) := HY2.out.below.size
         clear hw HY2 HY1
         generalize v2.heap.size = b at *
         obtain ⟨⟨r0, s0⟩, -, -⟩ := HX3.out.at b 24 qh ql (by simp)))
    refine wp_region_noPanic ?_
    refine wp_region_held_drew (S := fun W => Below w.heap.size w W) (by kernel_rfl) ?_ (fun hHeld => ?_)
    · exact HX3.out.drew.below
    refine wpAnyH_ready (rs := [0, 1]) (by kernel_rfl) (by simp) ?_
    refine AllReadyH.cons (o := { dst := some 29, op := Op.load 24 (Operand.tmp 7), type := 24, pos := "ratio.go:39", after := #[], guard := none }) rfl (fun K hK => ?_) ?_
    · go_simp
      skip
      (try go_wp2_with fail)
      refine hK.out _ _ ?_ (fun hHeld => ?_)
      · (first | exact HX3.out.drew.below | exact HY4.out.below | exact HY5.out.below | exact below_setRow HY5.out.below _ _ HV.out)
      clear hK K
      (try simp only [Act.put, List.setIfInBounds_toArray, List.set_cons_zero, List.set_cons_succ])
      refine wpAnyH_ready (rs := [1]) (by kernel_rfl) (by simp) ?_
      refine AllReadyH.cons (o := { dst := some 30, op := Op.call { callee := Callee.value (Operand.func 27), args := #[Operand.const (Value.int IntKind.u64 1)], argTypes := #[22] }, type := 24, pos := "ratio.go:39", after := #[], guard := none }) rfl (fun K hK => ?_) ?_
      · go_simp
        refine (of1 _).mono ?_
        rintro e v4 ⟨rfl, hb1⟩
        have HY4 := Lib.hid (HX3.out.drew.next hb1)
        obtain ⟨⟨r1, s1⟩, -, -⟩ := HY4.out.at b 24 qh ql (by simp)
        clear hb1
        (try go_wp2_with fail)
        refine hK.out _ _ ?_ (fun hHeld => ?_)
        · (first | exact HX3.out.drew.below | exact HY4.out.below | exact HY5.out.below | exact below_setRow HY5.out.below _ _ HV.out)
        clear hK K
        (try simp only [Act.put, List.setIfInBounds_toArray, List.set_cons_zero, List.set_cons_succ])
        refine wpAnyH_ready (rs := [2]) (by kernel_rfl) (by simp) ?_
        refine AllReadyH.cons (o := { dst := some 31, op := Op.call { callee := Callee.value (Operand.func 19), args := #[Operand.tmp 29, Operand.tmp 30], argTypes := #[24, 24] }, type := 25, pos := "ratio.go:39", after := #[{ on := 0, ground := Ground.data }, { on := 1, ground := Ground.data }, { on := 1, ground := Ground.chain }], guard := none }) rfl (fun K hK => ?_) ?_
        · go_simp
          (with_reducible refine (C4.out _).mono ?_)
          rintro e v5 ⟨rfl, hb1⟩
          have HY5 := Lib.hid (HY4.out.next hb1)
          clear hb1
          (try go_wp2_with fail)
          refine hK.out _ _ ?_ (fun hHeld => ?_)
          · (first | exact HX3.out.drew.below | exact HY4.out.below | exact HY5.out.below | exact below_setRow HY5.out.below _ _ HV.out)
          clear hK K
          (try simp only [Act.put, List.setIfInBounds_toArray, List.set_cons_zero, List.set_cons_succ])
          refine wpAnyH_take (i := 3) (oi := { dst := some 28, op := Op.move (Operand.tmp 31), type := 25, pos := "ratio.go:39", after := #[{ on := 2, ground := Ground.data }], guard := none }) (v := ?_) rfl (by kernel_rfl) (by kernel_rfl) (by kernel_rfl) (fun _ _ _ h => h) (Or.inl ⟨by rfl, ?_⟩) (by assumption) ?_
          rotate_left
          · (intro w9 hS9; (try dsimp only at hS9); go_simp); all_goals (with_reducible rfl)
          (try simp only [Act.put, List.setIfInBounds_toArray, List.set_cons_zero, List.set_cons_succ])
          refine wpAnyH_take (i := 4) (oi := { dst := some 32, op := Op.extract (Operand.tmp 28) 0, type := 24, pos := "ratio.go:39", after := #[{ on := 3, ground := Ground.data }], guard := none }) (v := ?_) rfl (by kernel_rfl) (by kernel_rfl) (by kernel_rfl) (fun _ _ _ h => h) (Or.inl ⟨by rfl, ?_⟩) (by assumption) ?_
          rotate_left
          · (intro w9 hS9; (try dsimp only at hS9); go_simp); all_goals (with_reducible rfl)
          (try simp only [Act.put, List.setIfInBounds_toArray, List.set_cons_zero, List.set_cons_succ])
          refine wpAnyH_take (i := 5) (oi := { dst := some 33, op := Op.extract (Operand.tmp 28) 1, type := 4, pos := "ratio.go:39", after := #[{ on := 3, ground := Ground.data }, { on := 6, ground := Ground.gcOnly Departure.lateStores }], guard := none }) (v := ?_) rfl (by kernel_rfl) (by kernel_rfl) (by kernel_rfl) (fun _ _ _ h => h) (Or.inl ⟨by rfl, ?_⟩) (by assumption) ?_
          rotate_left
          · (intro w9 hS9; (try dsimp only at hS9); go_simp); all_goals (with_reducible rfl)
          (try simp only [Act.put, List.setIfInBounds_toArray, List.set_cons_zero, List.set_cons_succ])
          refine wpAnyH_ready (rs := [6]) (by kernel_rfl) (by simp) ?_
          refine AllReadyH.cons (o := { dst := none, op := Op.store 24 (Operand.tmp 7) (Operand.tmp 32), type := 0, pos := "ratio.go:39", after := #[{ on := 4, ground := Ground.data }, { on := 2, ground := Ground.chain }, { on := 0, ground := Ground.phase }, { on := 1, ground := Ground.phase }, { on := 2, ground := Ground.phase }, { on := 3, ground := Ground.phase }, { on := 4, ground := Ground.phase }, { on := 5, ground := Ground.textOnly Departure.lateStores }], guard := none }) rfl (fun K hK => ?_) ?_
          · rw [if_pos (by rfl)]
            refine wp_store_row 24 _ _ rfl _ #[.int .u64 sh, .int .u64 sl] rfl rfl 24 #[.int .u64 qh, .int .u64 ql] (HY5.out.all (b, 24, qh, ql) (by simp)) size24 rfl (one2 _ _) ?_
            (try go_wp2_with fail)
            refine hK.out _ _ ?_ (fun hHeld => ?_)
            · (first | exact HX3.out.drew.below | exact HY4.out.below | exact HY5.out.below | exact below_setRow HY5.out.below _ _ HV.out)
            clear hK K
            (try simp only [Act.put, List.setIfInBounds_toArray, List.set_cons_zero, List.set_cons_succ])
            refine wpAnyH_done (by kernel_rfl) (NoPanic.normal ?_) _
            obtain ⟨p0, p1⟩ := two_cells (setRow_heap _ _ #[.int .u64 qh, .int .u64 ql] #[.int .u64 sh, .int .u64 sl] 24 (0, 0) (HY5.out.all (b, 24, qh, ql) (by simp)))
            have hB := below_setRow HY5.out.below b #[.int .u64 sh, .int .u64 sl] HV.out
            generalize v5.setRow b #[.int .u64 sh, .int .u64 sl] = W1 at *
            go_wp2_with fail
            go_ret
            exact ⟨rfl, hB⟩
          exact AllReadyH.nil
        exact AllReadyH.nil
      exact AllReadyH.nil
    refine AllReadyH.cons (o := { dst := some 30, op := Op.call { callee := Callee.value (Operand.func 27), args := #[Operand.const (Value.int IntKind.u64 1)], argTypes := #[22] }, type := 24, pos := "ratio.go:39", after := #[], guard := none }) rfl (fun K hK => ?_) ?_
    · go_simp
      refine (of1 _).mono ?_
      rintro e v4 ⟨rfl, hb1⟩
      have HY4 := Lib.hid (HX3.out.drew.next hb1)
      obtain ⟨⟨r1, s1⟩, -, -⟩ := HY4.out.at b 24 qh ql (by simp)
      clear hb1
      (try go_wp2_with fail)
      refine hK.out _ _ ?_ (fun hHeld => ?_)
      · (first | exact HX3.out.drew.below | exact HY4.out.below | exact HY5.out.below | exact below_setRow HY5.out.below _ _ HV.out)
      clear hK K
      (try simp only [Act.put, List.setIfInBounds_toArray, List.set_cons_zero, List.set_cons_succ])
      refine wpAnyH_ready (rs := [0]) (by kernel_rfl) (by simp) ?_
      refine AllReadyH.cons (o := { dst := some 29, op := Op.load 24 (Operand.tmp 7), type := 24, pos := "ratio.go:39", after := #[], guard := none }) rfl (fun K hK => ?_) ?_
      · go_simp
        skip
        (try go_wp2_with fail)
        refine hK.out _ _ ?_ (fun hHeld => ?_)
        · (first | exact HX3.out.drew.below | exact HY4.out.below | exact HY5.out.below | exact below_setRow HY5.out.below _ _ HV.out)
        clear hK K
        (try simp only [Act.put, List.setIfInBounds_toArray, List.set_cons_zero, List.set_cons_succ])
        refine wpAnyH_ready (rs := [2]) (by kernel_rfl) (by simp) ?_
        refine AllReadyH.cons (o := { dst := some 31, op := Op.call { callee := Callee.value (Operand.func 19), args := #[Operand.tmp 29, Operand.tmp 30], argTypes := #[24, 24] }, type := 25, pos := "ratio.go:39", after := #[{ on := 0, ground := Ground.data }, { on := 1, ground := Ground.data }, { on := 1, ground := Ground.chain }], guard := none }) rfl (fun K hK => ?_) ?_
        · go_simp
          (with_reducible refine (C4.out _).mono ?_)
          rintro e v5 ⟨rfl, hb1⟩
          have HY5 := Lib.hid (HY4.out.next hb1)
          clear hb1
          (try go_wp2_with fail)
          refine hK.out _ _ ?_ (fun hHeld => ?_)
          · (first | exact HX3.out.drew.below | exact HY4.out.below | exact HY5.out.below | exact below_setRow HY5.out.below _ _ HV.out)
          clear hK K
          (try simp only [Act.put, List.setIfInBounds_toArray, List.set_cons_zero, List.set_cons_succ])
          refine wpAnyH_take (i := 3) (oi := { dst := some 28, op := Op.move (Operand.tmp 31), type := 25, pos := "ratio.go:39", after := #[{ on := 2, ground := Ground.data }], guard := none }) (v := ?_) rfl (by kernel_rfl) (by kernel_rfl) (by kernel_rfl) (fun _ _ _ h => h) (Or.inl ⟨by rfl, ?_⟩) (by assumption) ?_
          rotate_left
          · (intro w9 hS9; (try dsimp only at hS9); go_simp); all_goals (with_reducible rfl)
          (try simp only [Act.put, List.setIfInBounds_toArray, List.set_cons_zero, List.set_cons_succ])
          refine wpAnyH_take (i := 4) (oi := { dst := some 32, op := Op.extract (Operand.tmp 28) 0, type := 24, pos := "ratio.go:39", after := #[{ on := 3, ground := Ground.data }], guard := none }) (v := ?_) rfl (by kernel_rfl) (by kernel_rfl) (by kernel_rfl) (fun _ _ _ h => h) (Or.inl ⟨by rfl, ?_⟩) (by assumption) ?_
          rotate_left
          · (intro w9 hS9; (try dsimp only at hS9); go_simp); all_goals (with_reducible rfl)
          (try simp only [Act.put, List.setIfInBounds_toArray, List.set_cons_zero, List.set_cons_succ])
          refine wpAnyH_take (i := 5) (oi := { dst := some 33, op := Op.extract (Operand.tmp 28) 1, type := 4, pos := "ratio.go:39", after := #[{ on := 3, ground := Ground.data }, { on := 6, ground := Ground.gcOnly Departure.lateStores }], guard := none }) (v := ?_) rfl (by kernel_rfl) (by kernel_rfl) (by kernel_rfl) (fun _ _ _ h => h) (Or.inl ⟨by rfl, ?_⟩) (by assumption) ?_
          rotate_left
          · (intro w9 hS9; (try dsimp only at hS9); go_simp); all_goals (with_reducible rfl)
          (try simp only [Act.put, List.setIfInBounds_toArray, List.set_cons_zero, List.set_cons_succ])
          refine wpAnyH_ready (rs := [6]) (by kernel_rfl) (by simp) ?_
          refine AllReadyH.cons (o := { dst := none, op := Op.store 24 (Operand.tmp 7) (Operand.tmp 32), type := 0, pos := "ratio.go:39", after := #[{ on := 4, ground := Ground.data }, { on := 2, ground := Ground.chain }, { on := 0, ground := Ground.phase }, { on := 1, ground := Ground.phase }, { on := 2, ground := Ground.phase }, { on := 3, ground := Ground.phase }, { on := 4, ground := Ground.phase }, { on := 5, ground := Ground.textOnly Departure.lateStores }], guard := none }) rfl (fun K hK => ?_) ?_
          · rw [if_pos (by rfl)]
            refine wp_store_row 24 _ _ rfl _ #[.int .u64 sh, .int .u64 sl] rfl rfl 24 #[.int .u64 qh, .int .u64 ql] (HY5.out.all (b, 24, qh, ql) (by simp)) size24 rfl (one2 _ _) ?_
            (try go_wp2_with fail)
            refine hK.out _ _ ?_ (fun hHeld => ?_)
            · (first | exact HX3.out.drew.below | exact HY4.out.below | exact HY5.out.below | exact below_setRow HY5.out.below _ _ HV.out)
            clear hK K
            (try simp only [Act.put, List.setIfInBounds_toArray, List.set_cons_zero, List.set_cons_succ])
            refine wpAnyH_done (by kernel_rfl) (NoPanic.normal ?_) _
            obtain ⟨p0, p1⟩ := two_cells (setRow_heap _ _ #[.int .u64 qh, .int .u64 ql] #[.int .u64 sh, .int .u64 sl] 24 (0, 0) (HY5.out.all (b, 24, qh, ql) (by simp)))
            have hB := below_setRow HY5.out.below b #[.int .u64 sh, .int .u64 sl] HV.out
            generalize v5.setRow b #[.int .u64 sh, .int .u64 sl] = W1 at *
            go_wp2_with fail
            go_ret
            exact ⟨rfl, hB⟩
          exact AllReadyH.nil
        exact AllReadyH.nil
      exact AllReadyH.nil
    exact AllReadyH.nil
  · have hg : decide (0 < rest) = false := decide_eq_false (by omega)
    clear hr
    go_enter Try.func61, Try.ntmps61
    go_wp2_with (first
      | (go_at_call 28; (with_reducible refine (C1.out _).mono ?_); rintro e v1 ⟨rfl, hb1⟩
         have HY1 := Lib.hid (HX0.out.next hb1)
         clear hb1)
      | (go_at_call 65; (with_reducible refine (C2.out _).mono ?_); rintro e v2 ⟨rfl, hb1⟩
         have HY2 := Lib.hid (HY1.out.next hb1)
         clear hb1)
      | (obtain ⟨w3, hw⟩ : ∃ w3, v2.alloc (.cells #[.int .u64 qh, .int .u64 ql] 24) = w3 := ⟨_, rfl⟩
         rewrite [hw]
         have HX3 : Hid (Boxes w w3 [(v2.heap.size, 24, qh, ql)]) := by rewrite [← hw]; exact HY2.out.new 24 qh ql
         clear hw HY2 HY1
         generalize v2.heap.size = b at *
         obtain ⟨⟨r0, s0⟩, -, -⟩ := HX3.out.at b 24 qh ql (by simp)))
    go_ret
    exact ⟨rfl, HX3.out.below⟩

end Go.Proofs.Ytcaeaepnobbjlaa
