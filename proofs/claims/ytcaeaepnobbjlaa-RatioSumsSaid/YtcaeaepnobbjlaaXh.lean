import Derived.Test.YtcaeaepnobbjlaaXg
namespace Go.Proofs.Ytcaeaepnobbjlaa
set_option linter.unusedVariables false
set_option linter.unusedSimpArgs false
open Go.RowKit

/-- A slice of numbers of 64 bits, nil or not. -/
structure U64At (w : World) (v : Value) (xs : List Nat) : Prop where
  form : ∃ a cap, v = .slice a xs.length cap ∧ (0 < xs.length → ∃ b off, a = some ⟨b, off, none⟩ ∧ ∀ i, (h : i < xs.length) → w.cell? ⟨b, off + i, none⟩ = some (.int .u64 ((xs[i] : Nat) : Int)))
theorem U64At.below {w w' : World} {v : Value} {xs : List Nat} (h : U64At w v xs) (hb : Below w.heap.size w w') : U64At w' v xs := by
  obtain ⟨a, cap, rfl, hc⟩ := h.form
  refine ⟨⟨a, cap, rfl, fun h0 => ?_⟩⟩
  obtain ⟨b, off, ha, hcell⟩ := hc h0
  refine ⟨b, off, ha, fun i hi => ?_⟩
  rw [hb.cell (World.block_lt_of_cell? w _ (hcell i hi))]
  exact hcell i hi

set_option maxRecDepth 100000 in
set_option maxHeartbeats 8000000 in
theorem sum_walk (xs : List Nat) (v : Value) (ph pl nh nl : Nat → Nat) (ov : Nat → Bool) (w : World) (hv : U64At w v xs) (hm : xs.length ≤ 9223372036854775807) (h0 : ph 0 = 0) (h1 : pl 0 = 0)
    (c1 : ∀ (k : Nat) (hk : k < xs.length) w, Calls Try.prog 27 #[.int .u64 ((xs[k] : Nat) : Int)] w fun e w' => e = .returned (wv (nh k) (nl k)) ∧ Below w.heap.size w w')
    (c2 : ∀ (k : Nat) (hk : k < xs.length) w, Calls Try.prog 19 #[wv (ph k) (pl k), wv (nh k) (nl k)] w fun e w' => e = .returned (.tuple #[wv (ph (k + 1)) (pl (k + 1)), .bool (ov k)]) ∧ Below w.heap.size w w') :
    Calls Try.prog 66 #[v] w fun e w' => e = .returned (wv (ph xs.length) (pl xs.length)) ∧ Below w.heap.size w w' := by
  have C1 := Lib.hid c1
  have C2 := Lib.hid c2
  have HV := Lib.hid hv
  have H0 := Lib.hid h0
  have H1 := Lib.hid h1
  obtain ⟨a, cap, rfl, hcells⟩ := hv.form
  have HC := Lib.hid hcells
  clear c1 c2 hv h0 h1 hcells
  go_enter Try.func66, Try.ntmps66
  go_wp2_with fail
  have hX := ((Boxes.nil w).new 24 0 0).new 24 0 0
  simp only [size_alloc, Int.natCast_zero] at hX
  generalize (w.alloc (.cells #[.int .u64 0, .int .u64 0] 24)).alloc (.cells #[.int .u64 0, .int .u64 0] 24) = w0 at *
  have HX0 : Hid (Boxes w w0 [(w.heap.size + 1, 24, 0, 0), (w.heap.size, 24, 0, 0)]) := hX
  clear hX
  go_loopw [8] (fun i wr => ∃ k : Nat, k ≤ xs.length ∧ i = .int .i64 (k : Int) ∧ Boxes w wr [(w.heap.size + 1, 24, ph k, pl k), (w.heap.size, 24, 0, 0)]) (fun i _ => ((xs.length : Int) - intOf i).toNat)
  case atStart => exact ⟨0, Nat.zero_le _, rfl, by rw [H0.out, H1.out]; exact HX0.out⟩
  case round =>
    obtain ⟨k, hk, rfl, hB⟩ := hrel
    by_cases hlt : k < xs.length
    · obtain ⟨b, off, rfl, hc⟩ := HC.out (by omega)
      have hck := hc k hlt
      have hck2 : wr.cell? ⟨b, off + k, none⟩ = some (.int .u64 ((xs[k] : Nat) : Int)) := by rw [hB.below.cell (World.block_lt_of_cell? w _ hck)]; exact hck
      have K1 := Lib.hid (C1.out k hlt)
      have K2 := Lib.hid (C2.out k hlt)
      have d1 : decide (k < xs.length) = true := decide_eq_true hlt
      have d3 : (0 : Int) ≤ k := by omega
      have d4 : (k : Int) < xs.length := by omega
      have e1 : IntKind.i64.wrap ((k : Int) + 1) = ((k + 1 : Nat) : Int) := by rw [IntWalk.i64_in _ (by omega)]; omega
      have HK : Hid (k < xs.length) := hlt
      obtain ⟨⟨r0, s0⟩, -, -⟩ := hB.at (w.heap.size + 1) 24 (ph k) (pl k) (by simp)
      have HX1 := Lib.hid hB
      generalize xs[k] = x at *
      generalize hp' : ph (k + 1) = ph' at *
      generalize hq' : pl (k + 1) = pl' at *
      have HP := Lib.hid hp'
      have HQ := Lib.hid hq'
      generalize ph k = phk at *
      generalize pl k = plk at *
      generalize nh k = nhk at *
      generalize nl k = nlk at *
      clear hc hck hB hlt hk hp' hq'
      go_wp2_with fail
      refine wp_region_noPanic ?_
      refine wp_region_held_drew (S := fun W => Below w.heap.size w W) (by kernel_rfl) ?_ (fun hHeld => ?_)
      · exact HX1.out.drew.below
      refine wpAnyH_take (i := 1) (oi := { dst := some 14, op := Op.move (Operand.tmp 5), type := 22, pos := "ratio.go:66", after := #[], guard := none }) (v := ?_) rfl (by kernel_rfl) (by kernel_rfl) (by kernel_rfl) (fun _ _ _ h => h) (Or.inl ⟨by rfl, ?_⟩) (by assumption) ?_
      rotate_left
      · (intro w9 hS9; (try dsimp only at hS9); go_simp); all_goals (with_reducible rfl)
      (try simp only [Act.put, List.setIfInBounds_toArray, List.set_cons_zero, List.set_cons_succ])
      refine wpAnyH_ready (rs := [0, 2]) (by kernel_rfl) (by simp) ?_
      refine AllReadyH.cons (o := { dst := some 13, op := Op.load 24 (Operand.tmp 3), type := 24, pos := "ratio.go:66", after := #[], guard := none }) rfl (fun K hK => ?_) ?_
      · go_simp
        skip
        (try go_wp2_with fail)
        refine hK.out _ _ ?_ (fun hHeld => ?_)
        · (first | exact HX1.out.drew.below | exact HY4.out.below | exact HY5.out.below | exact below_setRow HY5.out.below _ _ (by omega))
        clear hK K
        (try simp only [Act.put, List.setIfInBounds_toArray, List.set_cons_zero, List.set_cons_succ])
        refine wpAnyH_ready (rs := [2]) (by kernel_rfl) (by simp) ?_
        refine AllReadyH.cons (o := { dst := some 15, op := Op.call { callee := Callee.value (Operand.func 27), args := #[Operand.tmp 14], argTypes := #[22] }, type := 24, pos := "ratio.go:66", after := #[{ on := 1, ground := Ground.data }], guard := none }) rfl (fun K hK => ?_) ?_
        · go_simp
          (with_reducible refine (K1.out _).mono ?_)
          rintro e v4 ⟨rfl, hb1⟩
          have HY4 := Lib.hid (HX1.out.drew.next hb1)
          obtain ⟨⟨r1, s1⟩, -, -⟩ := HY4.out.at (w.heap.size + 1) 24 phk plk (by simp)
          clear hb1
          (try go_wp2_with fail)
          refine hK.out _ _ ?_ (fun hHeld => ?_)
          · (first | exact HX1.out.drew.below | exact HY4.out.below | exact HY5.out.below | exact below_setRow HY5.out.below _ _ (by omega))
          clear hK K
          (try simp only [Act.put, List.setIfInBounds_toArray, List.set_cons_zero, List.set_cons_succ])
          refine wpAnyH_ready (rs := [3]) (by kernel_rfl) (by simp) ?_
          refine AllReadyH.cons (o := { dst := some 16, op := Op.call { callee := Callee.value (Operand.func 19), args := #[Operand.tmp 13, Operand.tmp 15], argTypes := #[24, 24] }, type := 25, pos := "ratio.go:66", after := #[{ on := 0, ground := Ground.data }, { on := 2, ground := Ground.data }, { on := 2, ground := Ground.chain }], guard := none }) rfl (fun K hK => ?_) ?_
          · go_simp
            (with_reducible refine (K2.out _).mono ?_)
            rintro e v5 ⟨rfl, hb1⟩
            have HY5 := Lib.hid (HY4.out.next hb1)
            clear hb1
            (try go_wp2_with fail)
            refine hK.out _ _ ?_ (fun hHeld => ?_)
            · (first | exact HX1.out.drew.below | exact HY4.out.below | exact HY5.out.below | exact below_setRow HY5.out.below _ _ (by omega))
            clear hK K
            (try simp only [Act.put, List.setIfInBounds_toArray, List.set_cons_zero, List.set_cons_succ])
            refine wpAnyH_take (i := 4) (oi := { dst := some 12, op := Op.move (Operand.tmp 16), type := 25, pos := "ratio.go:66", after := #[{ on := 3, ground := Ground.data }], guard := none }) (v := ?_) rfl (by kernel_rfl) (by kernel_rfl) (by kernel_rfl) (fun _ _ _ h => h) (Or.inl ⟨by rfl, ?_⟩) (by assumption) ?_
            rotate_left
            · (intro w9 hS9; (try dsimp only at hS9); go_simp); all_goals (with_reducible rfl)
            (try simp only [Act.put, List.setIfInBounds_toArray, List.set_cons_zero, List.set_cons_succ])
            refine wpAnyH_take (i := 5) (oi := { dst := some 17, op := Op.extract (Operand.tmp 12) 0, type := 24, pos := "ratio.go:66", after := #[{ on := 4, ground := Ground.data }], guard := none }) (v := ?_) rfl (by kernel_rfl) (by kernel_rfl) (by kernel_rfl) (fun _ _ _ h => h) (Or.inl ⟨by rfl, ?_⟩) (by assumption) ?_
            rotate_left
            · (intro w9 hS9; (try dsimp only at hS9); go_simp); all_goals (with_reducible rfl)
            (try simp only [Act.put, List.setIfInBounds_toArray, List.set_cons_zero, List.set_cons_succ])
            refine wpAnyH_take (i := 6) (oi := { dst := some 18, op := Op.extract (Operand.tmp 12) 1, type := 4, pos := "ratio.go:66", after := #[{ on := 4, ground := Ground.data }, { on := 7, ground := Ground.gcOnly Departure.lateStores }], guard := none }) (v := ?_) rfl (by kernel_rfl) (by kernel_rfl) (by kernel_rfl) (fun _ _ _ h => h) (Or.inl ⟨by rfl, ?_⟩) (by assumption) ?_
            rotate_left
            · (intro w9 hS9; (try dsimp only at hS9); go_simp); all_goals (with_reducible rfl)
            (try simp only [Act.put, List.setIfInBounds_toArray, List.set_cons_zero, List.set_cons_succ])
            refine wpAnyH_ready (rs := [7]) (by kernel_rfl) (by simp) ?_
            refine AllReadyH.cons (o := { dst := none, op := Op.store 24 (Operand.tmp 3) (Operand.tmp 17), type := 0, pos := "ratio.go:66", after := #[{ on := 5, ground := Ground.data }, { on := 3, ground := Ground.chain }, { on := 0, ground := Ground.phase }, { on := 1, ground := Ground.phase }, { on := 2, ground := Ground.phase }, { on := 3, ground := Ground.phase }, { on := 4, ground := Ground.phase }, { on := 5, ground := Ground.phase }, { on := 6, ground := Ground.textOnly Departure.lateStores }], guard := none }) rfl (fun K hK => ?_) ?_
            · rw [if_pos (by rfl)]
              refine wp_store_row 24 _ _ rfl _ #[.int .u64 ph', .int .u64 pl'] rfl rfl 24 #[.int .u64 phk, .int .u64 plk] (HY5.out.all (w.heap.size + 1, 24, phk, plk) (by simp)) size24 rfl (one2 _ _) ?_
              (try go_wp2_with fail)
              refine hK.out _ _ ?_ (fun hHeld => ?_)
              · (first | exact HX1.out.drew.below | exact HY4.out.below | exact HY5.out.below | exact below_setRow HY5.out.below _ _ (by omega))
              clear hK K
              (try simp only [Act.put, List.setIfInBounds_toArray, List.set_cons_zero, List.set_cons_succ])
              refine wpAnyH_done (by kernel_rfl) (NoPanic.normal ?_) _
              have hB : Boxes w (v5.setRow (w.heap.size + 1) #[.int .u64 ph', .int .u64 pl']) [(w.heap.size + 1, 24, ph', pl'), (w.heap.size, 24, 0, 0)] := by
                refine Boxes.cons ?_ (setRow_heap _ _ #[.int .u64 phk, .int .u64 plk] _ 24 (0, 0) (HY5.out.all (w.heap.size + 1, 24, phk, plk) (by simp)))
                refine Boxes.row ⟨HY5.out.below, fun x hx => HY5.out.all x (by simp only [List.mem_cons, List.not_mem_nil, or_false] at hx; subst hx; simp)⟩ _ _ (by omega) ?_
                intro x hx; simp only [List.mem_cons, List.not_mem_nil, or_false] at hx; subst hx; simp
              have HB := Lib.hid hB
              clear hB
              generalize v5.setRow (w.heap.size + 1) #[.int .u64 ph', .int .u64 pl'] = W1 at *
              go_wp2_with fail
              go_roundw
              case rel => exact ⟨k + 1, HK.out, rfl, by rw [HP.out, HQ.out]; exact HB.out⟩
              case measure => have := HK.out; simp [intOf]; omega
            exact AllReadyH.nil
          exact AllReadyH.nil
        exact AllReadyH.nil
      refine AllReadyH.cons (o := { dst := some 15, op := Op.call { callee := Callee.value (Operand.func 27), args := #[Operand.tmp 14], argTypes := #[22] }, type := 24, pos := "ratio.go:66", after := #[{ on := 1, ground := Ground.data }], guard := none }) rfl (fun K hK => ?_) ?_
      · go_simp
        (with_reducible refine (K1.out _).mono ?_)
        rintro e v4 ⟨rfl, hb1⟩
        have HY4 := Lib.hid (HX1.out.drew.next hb1)
        obtain ⟨⟨r1, s1⟩, -, -⟩ := HY4.out.at (w.heap.size + 1) 24 phk plk (by simp)
        clear hb1
        (try go_wp2_with fail)
        refine hK.out _ _ ?_ (fun hHeld => ?_)
        · (first | exact HX1.out.drew.below | exact HY4.out.below | exact HY5.out.below | exact below_setRow HY5.out.below _ _ (by omega))
        clear hK K
        (try simp only [Act.put, List.setIfInBounds_toArray, List.set_cons_zero, List.set_cons_succ])
        refine wpAnyH_ready (rs := [0]) (by kernel_rfl) (by simp) ?_
        refine AllReadyH.cons (o := { dst := some 13, op := Op.load 24 (Operand.tmp 3), type := 24, pos := "ratio.go:66", after := #[], guard := none }) rfl (fun K hK => ?_) ?_
        · go_simp
          skip
          (try go_wp2_with fail)
          refine hK.out _ _ ?_ (fun hHeld => ?_)
          · (first | exact HX1.out.drew.below | exact HY4.out.below | exact HY5.out.below | exact below_setRow HY5.out.below _ _ (by omega))
          clear hK K
          (try simp only [Act.put, List.setIfInBounds_toArray, List.set_cons_zero, List.set_cons_succ])
          refine wpAnyH_ready (rs := [3]) (by kernel_rfl) (by simp) ?_
          refine AllReadyH.cons (o := { dst := some 16, op := Op.call { callee := Callee.value (Operand.func 19), args := #[Operand.tmp 13, Operand.tmp 15], argTypes := #[24, 24] }, type := 25, pos := "ratio.go:66", after := #[{ on := 0, ground := Ground.data }, { on := 2, ground := Ground.data }, { on := 2, ground := Ground.chain }], guard := none }) rfl (fun K hK => ?_) ?_
          · go_simp
            (with_reducible refine (K2.out _).mono ?_)
            rintro e v5 ⟨rfl, hb1⟩
            have HY5 := Lib.hid (HY4.out.next hb1)
            clear hb1
            (try go_wp2_with fail)
            refine hK.out _ _ ?_ (fun hHeld => ?_)
            · (first | exact HX1.out.drew.below | exact HY4.out.below | exact HY5.out.below | exact below_setRow HY5.out.below _ _ (by omega))
            clear hK K
            (try simp only [Act.put, List.setIfInBounds_toArray, List.set_cons_zero, List.set_cons_succ])
            refine wpAnyH_take (i := 4) (oi := { dst := some 12, op := Op.move (Operand.tmp 16), type := 25, pos := "ratio.go:66", after := #[{ on := 3, ground := Ground.data }], guard := none }) (v := ?_) rfl (by kernel_rfl) (by kernel_rfl) (by kernel_rfl) (fun _ _ _ h => h) (Or.inl ⟨by rfl, ?_⟩) (by assumption) ?_
            rotate_left
            · (intro w9 hS9; (try dsimp only at hS9); go_simp); all_goals (with_reducible rfl)
            (try simp only [Act.put, List.setIfInBounds_toArray, List.set_cons_zero, List.set_cons_succ])
            refine wpAnyH_take (i := 5) (oi := { dst := some 17, op := Op.extract (Operand.tmp 12) 0, type := 24, pos := "ratio.go:66", after := #[{ on := 4, ground := Ground.data }], guard := none }) (v := ?_) rfl (by kernel_rfl) (by kernel_rfl) (by kernel_rfl) (fun _ _ _ h => h) (Or.inl ⟨by rfl, ?_⟩) (by assumption) ?_
            rotate_left
            · (intro w9 hS9; (try dsimp only at hS9); go_simp); all_goals (with_reducible rfl)
            (try simp only [Act.put, List.setIfInBounds_toArray, List.set_cons_zero, List.set_cons_succ])
            refine wpAnyH_take (i := 6) (oi := { dst := some 18, op := Op.extract (Operand.tmp 12) 1, type := 4, pos := "ratio.go:66", after := #[{ on := 4, ground := Ground.data }, { on := 7, ground := Ground.gcOnly Departure.lateStores }], guard := none }) (v := ?_) rfl (by kernel_rfl) (by kernel_rfl) (by kernel_rfl) (fun _ _ _ h => h) (Or.inl ⟨by rfl, ?_⟩) (by assumption) ?_
            rotate_left
            · (intro w9 hS9; (try dsimp only at hS9); go_simp); all_goals (with_reducible rfl)
            (try simp only [Act.put, List.setIfInBounds_toArray, List.set_cons_zero, List.set_cons_succ])
            refine wpAnyH_ready (rs := [7]) (by kernel_rfl) (by simp) ?_
            refine AllReadyH.cons (o := { dst := none, op := Op.store 24 (Operand.tmp 3) (Operand.tmp 17), type := 0, pos := "ratio.go:66", after := #[{ on := 5, ground := Ground.data }, { on := 3, ground := Ground.chain }, { on := 0, ground := Ground.phase }, { on := 1, ground := Ground.phase }, { on := 2, ground := Ground.phase }, { on := 3, ground := Ground.phase }, { on := 4, ground := Ground.phase }, { on := 5, ground := Ground.phase }, { on := 6, ground := Ground.textOnly Departure.lateStores }], guard := none }) rfl (fun K hK => ?_) ?_
            · rw [if_pos (by rfl)]
              refine wp_store_row 24 _ _ rfl _ #[.int .u64 ph', .int .u64 pl'] rfl rfl 24 #[.int .u64 phk, .int .u64 plk] (HY5.out.all (w.heap.size + 1, 24, phk, plk) (by simp)) size24 rfl (one2 _ _) ?_
              (try go_wp2_with fail)
              refine hK.out _ _ ?_ (fun hHeld => ?_)
              · (first | exact HX1.out.drew.below | exact HY4.out.below | exact HY5.out.below | exact below_setRow HY5.out.below _ _ (by omega))
              clear hK K
              (try simp only [Act.put, List.setIfInBounds_toArray, List.set_cons_zero, List.set_cons_succ])
              refine wpAnyH_done (by kernel_rfl) (NoPanic.normal ?_) _
              have hB : Boxes w (v5.setRow (w.heap.size + 1) #[.int .u64 ph', .int .u64 pl']) [(w.heap.size + 1, 24, ph', pl'), (w.heap.size, 24, 0, 0)] := by
                refine Boxes.cons ?_ (setRow_heap _ _ #[.int .u64 phk, .int .u64 plk] _ 24 (0, 0) (HY5.out.all (w.heap.size + 1, 24, phk, plk) (by simp)))
                refine Boxes.row ⟨HY5.out.below, fun x hx => HY5.out.all x (by simp only [List.mem_cons, List.not_mem_nil, or_false] at hx; subst hx; simp)⟩ _ _ (by omega) ?_
                intro x hx; simp only [List.mem_cons, List.not_mem_nil, or_false] at hx; subst hx; simp
              have HB := Lib.hid hB
              clear hB
              generalize v5.setRow (w.heap.size + 1) #[.int .u64 ph', .int .u64 pl'] = W1 at *
              go_wp2_with fail
              go_roundw
              case rel => exact ⟨k + 1, HK.out, rfl, by rw [HP.out, HQ.out]; exact HB.out⟩
              case measure => have := HK.out; simp [intOf]; omega
            exact AllReadyH.nil
          exact AllReadyH.nil
        exact AllReadyH.nil
      exact AllReadyH.nil
    · have d1 : decide (k < xs.length) = false := decide_eq_false hlt
      obtain rfl : k = xs.length := by omega
      obtain ⟨⟨r0, s0⟩, -, -⟩ := hB.at (w.heap.size + 1) 24 (ph xs.length) (pl xs.length) (by simp)
      have HX1 := Lib.hid hB
      generalize hA : ph xs.length = a1 at *
      generalize hA2 : pl xs.length = a2 at *
      have HA := Lib.hid hA
      have HA2 := Lib.hid hA2
      clear hB hlt hk hA hA2
      go_wp2_with (refine wpList_store_row rfl 24 _ _ rfl w.heap.size #[.int .u64 a1, .int .u64 a2] rfl rfl 24 #[.int .u64 0, .int .u64 0] (HX1.out.all (w.heap.size, 24, 0, 0) (by simp)) size24 rfl (one2 _ _) ?_)
      obtain ⟨p0, p1⟩ := two_cells (setRow_heap _ _ #[.int .u64 0, .int .u64 0] #[.int .u64 a1, .int .u64 a2] 24 (0, 0) (HX1.out.all (w.heap.size, 24, 0, 0) (by simp)))
      have hB2 := below_setRow HX1.out.below w.heap.size #[.int .u64 a1, .int .u64 a2] (Nat.le_refl _)
      generalize wr.setRow w.heap.size #[.int .u64 a1, .int .u64 a2] = W1 at *
      exact bodyPost_ret (v := wv a1 a2) (by simp [results, Try.results66, go_sem, p0, p1]) rfl ⟨by rw [HA.out, HA2.out], hB2⟩

def sumL (xs : List Nat) : Nat := xs.foldl (· + ·) 0
/-- The sum's contract. -/
theorem sum_any (xs : List Nat) (v : Value) (w : World) (hv : U64At w v xs) (hm : xs.length ≤ 9223372036854775807) (hx : ∀ x ∈ xs, x < M) :
    Calls Try.prog 66 #[v] w fun e w' => e = .returned (W (sumL xs % MM)) ∧ Below w.heap.size w w' := by
  have hMM : M ≤ MM := by decide
  have h := sum_walk xs v (fun k => sumL (xs.take k) % MM / M) (fun k => sumL (xs.take k) % MM % M) (fun k => xs[k]?.getD 0 / M) (fun k => xs[k]?.getD 0 % M) (fun k => decide (MM ≤ sumL (xs.take k) % MM + xs[k]?.getD 0)) w hv hm (by simp [sumL]) (by simp [sumL])
    (fun k hk w => ?_) (fun k hk w => ?_)
  · rw [List.take_length] at h
    exact h
  · have h := of_any xs[k] (hx _ (List.getElem_mem hk)) w
    rw [List.getElem?_eq_getElem hk, Option.getD_some]
    exact h
  · have hk2 := hx _ (List.getElem_mem hk)
    have h := add_any (sumL (xs.take k) % MM) xs[k] (Nat.mod_lt _ (by decide)) (by omega) w
    have e : (sumL (xs.take k) % MM + xs[k]) % MM = sumL (xs.take (k + 1)) % MM := by
      rw [Nat.mod_add_mod]
      unfold sumL
      rw [List.take_succ_eq_append_getElem hk, List.foldl_append]
      rfl
    rw [e] at h
    rw [List.getElem?_eq_getElem hk, Option.getD_some]
    exact h

end Go.Proofs.Ytcaeaepnobbjlaa

