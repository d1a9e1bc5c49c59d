import Derived.Test.YtcaeaepnobbjlaaNl
namespace Go.Proofs.Ytcaeaepnobbjlaa
set_option linter.unusedVariables false
set_option linter.unusedSimpArgs false
open Go.RowKit

theorem pv_less (x y : ByteArray) (k : Nat) (hx : ∀ j, gb x j ≤ 57) (h : pv x (k + 1) < pv y (k + 1)) : ∀ n, pv x (k + 1 + n) < pv y (k + 1 + n)
  | 0 => h
  | n + 1 => by
    have ih := pv_less x y k hx h n
    have := hx (k + 1 + n)
    rw [← Nat.add_assoc, pv, pv]; omega
theorem pv_same (x y : ByteArray) : ∀ n, (∀ j, j < n → gb x j = gb y j) → pv x n = pv y n
  | 0, _ => rfl
  | n + 1, h => by rw [pv, pv, pv_same x y n (fun j hj => h j (by omega)), h n (by omega)]
theorem isT_le (s : ByteArray) (h : IsT s) (j : Nat) : gb s j ≤ 57 := by
  by_cases c : j < s.size
  · exact (h.1 j c).2
  · rw [gb, dif_neg c]; omega
/-- Whether a number is, by its digits, less than another, or the same. -/
theorem less_any (a b : Nat) (ha : (textN a).size ≤ 9223372036854775807) (w : World) : Calls Try.prog 51 #[.string (textN a), .string (textN b)] w fun e w' => e = .returned (.bool (decide (a ≤ b))) ∧ Below w.heap.size w w' := by
  have ta := text_pv a
  have tb := text_pv b
  have da := text_isT a
  have db := text_isT b
  refine less_walk (textN a) (textN b) _ ha (fun hne => ?_) (fun he k hk hj hne => ?_) (fun he hj => ?_) w
  · by_cases c : (textN a).size < (textN b).size
    · rw [decide_eq_true c]; have := text_shorter a b c; exact decide_eq_true (by omega)
    · rw [decide_eq_false c]; have := text_shorter b a (by omega); exact decide_eq_false (by omega)
  · have hs := pv_same _ _ k hj
    have d1 := (da.1 k hk).1
    have d2 := (db.1 k (by omega)).1
    obtain ⟨m, hm⟩ : ∃ m, (textN a).size = k + 1 + m := ⟨(textN a).size - (k + 1), by omega⟩
    by_cases c : gb (textN a) k < gb (textN b) k
    · have h := pv_less (textN a) (textN b) k (isT_le _ da) (by rw [pv, pv, hs]; omega) m
      rw [← hm, ta, he, tb] at h
      rw [decide_eq_true (show a ≤ b by omega)]
      symm
      simp
      omega
    · have h := pv_less (textN b) (textN a) k (isT_le _ db) (by rw [pv, pv, hs]; omega) m
      rw [← hm, ta, he, tb] at h
      rw [decide_eq_false (show ¬ a ≤ b by omega)]
      symm
      simp
      omega
  · have h := pv_same _ _ _ hj
    rw [ta, he, tb] at h
    exact decide_eq_true (by omega)

theorem Boxes.drew0 {w w1 : World} {bs : List (Nat × TypeId × Nat × Nat)} (h : Boxes w w1 bs) : Boxes w w1.drew bs := h.next ⟨rfl, rfl, rfl, Nat.le_refl _, fun _ _ => rfl⟩

set_option maxRecDepth 100000 in
set_option maxHeartbeats 16000000 in
theorem refparse_walk (s : ByteArray) (vh vl th tl fh fl gh gl xh xl : Nat → Nat) (o1 o2 o3 o4 o5 : Nat → Bool) (hsz : s.size ≤ 9223372036854775807) (hd : ∀ k, k < s.size → isDig (gb s k)) (h0 : vh 0 = 0) (h1 : vl 0 = 0)
    (c1 : ∀ k, k < s.size → ∀ w, Calls Try.prog 20 #[wv (vh k) (vl k), wv (vh k) (vl k)] w fun e w' => e = .returned (.tuple #[wv (th k) (tl k), .bool (o1 k)]) ∧ Below w.heap.size w w')
    (c2 : ∀ k, k < s.size → ∀ w, Calls Try.prog 20 #[wv (th k) (tl k), wv (th k) (tl k)] w fun e w' => e = .returned (.tuple #[wv (fh k) (fl k), .bool (o2 k)]) ∧ Below w.heap.size w w')
    (c3 : ∀ k, k < s.size → ∀ w, Calls Try.prog 20 #[wv (fh k) (fl k), wv (vh k) (vl k)] w fun e w' => e = .returned (.tuple #[wv (gh k) (gl k), .bool (o3 k)]) ∧ Below w.heap.size w w')
    (c4 : ∀ k, k < s.size → ∀ w, Calls Try.prog 20 #[wv (gh k) (gl k), wv (gh k) (gl k)] w fun e w' => e = .returned (.tuple #[wv (xh k) (xl k), .bool (o4 k)]) ∧ Below w.heap.size w w')
    (c5 : ∀ k, k < s.size → ∀ w, Calls Try.prog 20 #[wv (xh k) (xl k), .agg #[.int .u64 0, .int .u64 ((gb s k - 48 : Nat) : Int)]] w fun e w' => e = .returned (.tuple #[wv (vh (k + 1)) (vl (k + 1)), .bool (o5 k)]) ∧ Below w.heap.size w w') (w : World) :
    Calls Try.prog 53 #[.string s] w fun e w' => e = .returned (wv (vh s.size) (vl s.size)) ∧ Below w.heap.size w w' := by
  have C1 := Lib.hid c1
  have C2 := Lib.hid c2
  have C3 := Lib.hid c3
  have C4 := Lib.hid c4
  have C5 := Lib.hid c5
  have HD := Lib.hid hd
  have HZ := Lib.hid hsz
  have H0 := Lib.hid h0
  have H1 := Lib.hid h1
  clear c1 c2 c3 c4 c5 hd hsz h0 h1
  go_enter Try.func53, Try.ntmps53
  go_wp2_with fail
  have hX := ((Boxes.nil w).new 27 0 0).new 27 0 0
  simp only [size_alloc, Int.natCast_zero] at hX
  generalize (w.alloc (.cells #[.int .u64 0, .int .u64 0] 27)).alloc (.cells #[.int .u64 0, .int .u64 0] 27) = w0 at *
  have HX0 : Hid (Boxes w w0 [(w.heap.size + 1, 27, 0, 0), (w.heap.size, 27, 0, 0)]) := hX
  clear hX
  go_loopw [4] (fun i wr => ∃ k : Nat, k ≤ s.size ∧ i = .int .i64 (k : Int) ∧ Boxes w wr [(w.heap.size + 1, 27, vh k, vl k), (w.heap.size, 27, 0, 0)]) (fun i _ => ((s.size : Int) - intOf i).toNat)
  case atStart => exact ⟨0, Nat.zero_le _, rfl, by rw [H0.out, H1.out]; exact HX0.out⟩
  case round =>
    obtain ⟨k, hk, rfl, hB⟩ := hrel
    by_cases hlt : k < s.size
    · have d1 : decide (k < s.size) = true := decide_eq_true hlt
      have d3 : (0 : Int) ≤ k := by omega
      have d4 : (k : Int) < s.size := by omega
      have hz := HZ.out
      have e1 : IntKind.i64.wrap ((k : Int) + 1) = ((k + 1 : Nat) : Int) := by rw [IntWalk.i64_in _ (by omega)]; omega
      have hdig := HD.out k hlt
      have hg := gb_eq s k hlt
      have e2 : IntKind.u64.wrap (((s[k]'hlt).toNat : Nat) : Int) = (gb s k : Int) := by have := hdig.2; rw [hg, IntKind.wrap_u64]; omega
      have e3 : IntKind.u64.wrap ((gb s k : Int) - 48) = ((gb s k - 48 : Nat) : Int) := by have := hdig.1; have := hdig.2; rw [IntKind.wrap_u64]; omega
      have K1 := Lib.hid (C1.out k hlt)
      have K2 := Lib.hid (C2.out k hlt)
      have K3 := Lib.hid (C3.out k hlt)
      have K4 := Lib.hid (C4.out k hlt)
      have K5 := Lib.hid (C5.out k hlt)
      have HK : Hid (k < s.size) := hlt
      have HX1 := Lib.hid hB
      have HP : Hid (∀ (p q : Nat) wr', p = vh (k + 1) → q = vl (k + 1) → Boxes w wr' [(w.heap.size + 1, 27, p, q), (w.heap.size, 27, 0, 0)] → Boxes w wr' [(w.heap.size + 1, 27, vh (k + 1), vl (k + 1)), (w.heap.size, 27, 0, 0)]) := fun p q wr' h1 h2 h => by rw [← h1, ← h2]; exact h
      generalize hp' : vh (k + 1) = ph' at *
      generalize hq' : vl (k + 1) = pl' at *
      generalize gb s k - 48 = d at *
      generalize gb s k = b at *
      generalize vh k = phk at *
      generalize vl k = plk at *
      generalize th k = thk at *
      generalize tl k = tlk at *
      generalize fh k = fhk at *
      generalize fl k = flk at *
      generalize gh k = ghk at *
      generalize gl k = glk at *
      generalize xh k = xhk at *
      generalize xl k = xlk at *
      have HQ : Hid (vh (k + 1) = ph' ∧ vl (k + 1) = pl') := ⟨hp', hq'⟩
      clear hB hz hdig hg hk hp' hq' HP
      obtain ⟨⟨r0, s0⟩, -, -⟩ := HX1.out.at (w.heap.size + 1) 27 phk plk (by simp)
      obtain ⟨⟨r1, s1⟩, -, -⟩ := HX1.out.at (w.heap.size) 27 0 0 (by simp)
      go_wp2_with (first
        | (go_at_call 20; with_reducible refine (K1.out _).mono ?_; rintro e v2 ⟨rfl, hb1⟩
           have HY2 := Lib.hid (HX1.out.next hb1)
           clear hb1 r0 s0 r1 s1 HX1)
        | (obtain ⟨w2, hw⟩ : ∃ w2, v2.alloc (.cells #[.int .u64 thk, .int .u64 tlk] 27) = w2 := ⟨_, rfl⟩
           rewrite [hw]
           have HX2 : Hid (Boxes w w2 [(v2.heap.size, 27, thk, tlk), (w.heap.size + 1, 27, phk, plk), (w.heap.size, 27, 0, 0)]) := by rewrite [← hw]; exact HY2.out.new 27 thk tlk
           clear hw HY2
           generalize v2.heap.size = c2 at *
           obtain ⟨⟨r0, s0⟩, -, -⟩ := HX2.out.at (c2) 27 thk tlk (by simp)
           obtain ⟨⟨r1, s1⟩, -, -⟩ := HX2.out.at (w.heap.size + 1) 27 phk plk (by simp)
           obtain ⟨⟨r2, s2⟩, -, -⟩ := HX2.out.at (w.heap.size) 27 0 0 (by simp))
        | (go_at_call 20; with_reducible refine (K2.out _).mono ?_; rintro e v3 ⟨rfl, hb1⟩
           have HY3 := Lib.hid (HX2.out.next hb1)
           clear hb1 r0 s0 r1 s1 r2 s2 HX2)
        | (obtain ⟨w3, hw⟩ : ∃ w3, v3.alloc (.cells #[.int .u64 fhk, .int .u64 flk] 27) = w3 := ⟨_, rfl⟩
           rewrite [hw]
           have HX3 : Hid (Boxes w w3 [(v3.heap.size, 27, fhk, flk), (c2, 27, thk, tlk), (w.heap.size + 1, 27, phk, plk), (w.heap.size, 27, 0, 0)]) := by rewrite [← hw]; exact HY3.out.new 27 fhk flk
           clear hw HY3
           generalize v3.heap.size = c3 at *
           obtain ⟨⟨r0, s0⟩, -, -⟩ := HX3.out.at (c3) 27 fhk flk (by simp)
           obtain ⟨⟨r1, s1⟩, -, -⟩ := HX3.out.at (c2) 27 thk tlk (by simp)
           obtain ⟨⟨r2, s2⟩, -, -⟩ := HX3.out.at (w.heap.size + 1) 27 phk plk (by simp)
           obtain ⟨⟨r3, s3⟩, -, -⟩ := HX3.out.at (w.heap.size) 27 0 0 (by simp))
        | (go_at_call 20; with_reducible refine (K3.out _).mono ?_; rintro e v4 ⟨rfl, hb1⟩
           have HY4 := Lib.hid (HX3.out.next hb1)
           clear hb1 r0 s0 r1 s1 r2 s2 r3 s3 HX3)
        | (obtain ⟨w4, hw⟩ : ∃ w4, v4.alloc (.cells #[.int .u64 ghk, .int .u64 glk] 27) = w4 := ⟨_, rfl⟩
           rewrite [hw]
           have HX4 : Hid (Boxes w w4 [(v4.heap.size, 27, ghk, glk), (c3, 27, fhk, flk), (c2, 27, thk, tlk), (w.heap.size + 1, 27, phk, plk), (w.heap.size, 27, 0, 0)]) := by rewrite [← hw]; exact HY4.out.new 27 ghk glk
           clear hw HY4
           generalize v4.heap.size = c4 at *
           obtain ⟨⟨r0, s0⟩, -, -⟩ := HX4.out.at (c4) 27 ghk glk (by simp)
           obtain ⟨⟨r1, s1⟩, -, -⟩ := HX4.out.at (c3) 27 fhk flk (by simp)
           obtain ⟨⟨r2, s2⟩, -, -⟩ := HX4.out.at (c2) 27 thk tlk (by simp)
           obtain ⟨⟨r3, s3⟩, -, -⟩ := HX4.out.at (w.heap.size + 1) 27 phk plk (by simp)
           obtain ⟨⟨r4, s4⟩, -, -⟩ := HX4.out.at (w.heap.size) 27 0 0 (by simp))
        | (go_at_call 20; with_reducible refine (K4.out _).mono ?_; rintro e v5 ⟨rfl, hb1⟩
           have HY5 := Lib.hid (HX4.out.next hb1)
           clear hb1 r0 s0 r1 s1 r2 s2 r3 s3 r4 s4 HX4)
        | (obtain ⟨w5, hw⟩ : ∃ w5, v5.alloc (.cells #[.int .u64 xhk, .int .u64 xlk] 27) = w5 := ⟨_, rfl⟩
           rewrite [hw]
           have HX5 : Hid (Boxes w w5 [(v5.heap.size, 27, xhk, xlk), (c4, 27, ghk, glk), (c3, 27, fhk, flk), (c2, 27, thk, tlk), (w.heap.size + 1, 27, phk, plk), (w.heap.size, 27, 0, 0)]) := by rewrite [← hw]; exact HY5.out.new 27 xhk xlk
           clear hw HY5
           generalize v5.heap.size = c5 at *
           obtain ⟨⟨r0, s0⟩, -, -⟩ := HX5.out.at (c5) 27 xhk xlk (by simp)
           obtain ⟨⟨r1, s1⟩, -, -⟩ := HX5.out.at (c4) 27 ghk glk (by simp)
           obtain ⟨⟨r2, s2⟩, -, -⟩ := HX5.out.at (c3) 27 fhk flk (by simp)
           obtain ⟨⟨r3, s3⟩, -, -⟩ := HX5.out.at (c2) 27 thk tlk (by simp)
           obtain ⟨⟨r4, s4⟩, -, -⟩ := HX5.out.at (w.heap.size + 1) 27 phk plk (by simp)
           obtain ⟨⟨r5, s5⟩, -, -⟩ := HX5.out.at (w.heap.size) 27 0 0 (by simp)))
      refine wp_region_noPanic ?_
      refine wp_region_held_drew (S := fun W => Below w.heap.size w W) (by kernel_rfl) ?_ (fun hHeld => ?_)
      · exact HX5.out.drew0.below
      refine wpAnyH_take (i := 1) (oi := { dst := some 46, op := Op.move (Operand.tmp 0), type := 9, pos := "ref.go:62", after := #[], guard := none }) (v := ?_) rfl (by kernel_rfl) (by kernel_rfl) (by kernel_rfl) (fun _ _ _ h => h) (Or.inl ⟨by rfl, ?_⟩) (by assumption) ?_
      rotate_left
      · (intro w9 hS9; (try dsimp only at hS9); go_simp); all_goals (with_reducible rfl)
      (try simp only [Act.put, List.setIfInBounds_toArray, List.set_cons_zero, List.set_cons_succ])
      refine wpAnyH_take (i := 2) (oi := { dst := some 47, op := Op.move (Operand.tmp 4), type := 3, pos := "ref.go:62", after := #[], guard := none }) (v := ?_) rfl (by kernel_rfl) (by kernel_rfl) (by kernel_rfl) (fun _ _ _ h => h) (Or.inl ⟨by rfl, ?_⟩) (by assumption) ?_
      rotate_left
      · (intro w9 hS9; (try dsimp only at hS9); go_simp); all_goals (with_reducible rfl)
      (try simp only [Act.put, List.setIfInBounds_toArray, List.set_cons_zero, List.set_cons_succ])
      refine wpAnyH_take (i := 3) (oi := { dst := some 48, op := Op.index 9 (Operand.tmp 46) (Operand.tmp 47), type := 5, pos := "ref.go:62", after := #[{ on := 1, ground := Ground.data }, { on := 2, ground := Ground.data }], guard := none }) (v := ?_) rfl (by kernel_rfl) (by kernel_rfl) (by kernel_rfl) (fun _ _ _ h => h) (Or.inl ⟨by rfl, ?_⟩) (by assumption) ?_
      rotate_left
      · (intro w9 hS9; (try dsimp only at hS9); go_simp); all_goals (with_reducible rfl)
      (try simp only [Act.put, List.setIfInBounds_toArray, List.set_cons_zero, List.set_cons_succ])
      refine wpAnyH_take (i := 4) (oi := { dst := some 49, op := Op.convert 5 22 (Operand.tmp 48), type := 22, pos := "ref.go:62", after := #[{ on := 3, ground := Ground.data }], guard := none }) (v := ?_) rfl (by kernel_rfl) (by kernel_rfl) (by kernel_rfl) (fun _ _ _ h => h) (Or.inl ⟨by rfl, ?_⟩) (by assumption) ?_
      rotate_left
      · (intro w9 hS9; (try dsimp only at hS9); go_simp); all_goals (with_reducible rfl)
      (try simp only [Act.put, List.setIfInBounds_toArray, List.set_cons_zero, List.set_cons_succ])
      refine wpAnyH_take (i := 5) (oi := { dst := some 50, op := Op.binOp BinOp.sub 22 (Operand.tmp 49) (Operand.const (Value.int IntKind.u64 48)) 22, type := 22, pos := "ref.go:62", after := #[{ on := 4, ground := Ground.data }], guard := none }) (v := ?_) rfl (by kernel_rfl) (by kernel_rfl) (by kernel_rfl) (fun _ _ _ h => h) (Or.inl ⟨by rfl, ?_⟩) (by assumption) ?_
      rotate_left
      · (intro w9 hS9; (try dsimp only at hS9); go_simp); all_goals (with_reducible rfl)
      (try simp only [Act.put, List.setIfInBounds_toArray, List.set_cons_zero, List.set_cons_succ])
      refine wpAnyH_ready (rs := [0, 6]) (by kernel_rfl) (by simp) ?_
      refine AllReadyH.cons (o := { dst := some 45, op := Op.load 27 (Operand.tmp 11), type := 27, pos := "ref.go:62", after := #[], guard := none }) rfl (fun K hK => ?_) ?_
      · go_simp
        skip
        (try go_wp2_with fail)
        refine hK.out _ _ ?_ (fun hHeld => ?_)
        · (first | exact HX5.out.drew0.below | exact HY9.out.below | exact below_setRow HY9.out.below _ _ (by omega))
        clear hK K
        (try simp only [Act.put, List.setIfInBounds_toArray, List.set_cons_zero, List.set_cons_succ])
        refine wpAnyH_ready (rs := [6]) (by kernel_rfl) (by simp) ?_
        refine AllReadyH.cons (o := { dst := some 51, op := Op.build 27 #[(1, Operand.tmp 50)], type := 27, pos := "ref.go:62", after := #[{ on := 5, ground := Ground.data }], guard := none }) rfl (fun K hK => ?_) ?_
        · go_simp
          skip
          (try go_wp2_with fail)
          refine hK.out _ _ ?_ (fun hHeld => ?_)
          · (first | exact HX5.out.drew0.below | exact HY9.out.below | exact below_setRow HY9.out.below _ _ (by omega))
          clear hK K
          (try simp only [Act.put, List.setIfInBounds_toArray, List.set_cons_zero, List.set_cons_succ])
          refine wpAnyH_ready (rs := [7]) (by kernel_rfl) (by simp) ?_
          refine AllReadyH.cons (o := { dst := some 52, op := Op.call { callee := Callee.value (Operand.func 20), args := #[Operand.tmp 45, Operand.tmp 51], argTypes := #[27, 27] }, type := 28, pos := "ref.go:62", after := #[{ on := 0, ground := Ground.data }, { on := 6, ground := Ground.data }], guard := none }) rfl (fun K hK => ?_) ?_
          · go_simp
            (with_reducible refine (K5.out _).mono ?_)
            rintro e v9 ⟨rfl, hb1⟩
            have HY9 := Lib.hid (HX5.out.drew0.next hb1)
            clear hb1
            (try go_wp2_with fail)
            refine hK.out _ _ ?_ (fun hHeld => ?_)
            · (first | exact HX5.out.drew0.below | exact HY9.out.below | exact below_setRow HY9.out.below _ _ (by omega))
            clear hK K
            (try simp only [Act.put, List.setIfInBounds_toArray, List.set_cons_zero, List.set_cons_succ])
            refine wpAnyH_take (i := 8) (oi := { dst := some 44, op := Op.move (Operand.tmp 52), type := 28, pos := "ref.go:62", after := #[{ on := 7, ground := Ground.data }], guard := none }) (v := ?_) rfl (by kernel_rfl) (by kernel_rfl) (by kernel_rfl) (fun _ _ _ h => h) (Or.inl ⟨by rfl, ?_⟩) (by assumption) ?_
            rotate_left
            · (intro w9 hS9; (try dsimp only at hS9); go_simp); all_goals (with_reducible rfl)
            (try simp only [Act.put, List.setIfInBounds_toArray, List.set_cons_zero, List.set_cons_succ])
            refine wpAnyH_take (i := 9) (oi := { dst := some 53, op := Op.extract (Operand.tmp 44) 0, type := 27, pos := "ref.go:62", after := #[{ on := 8, ground := Ground.data }], guard := none }) (v := ?_) rfl (by kernel_rfl) (by kernel_rfl) (by kernel_rfl) (fun _ _ _ h => h) (Or.inl ⟨by rfl, ?_⟩) (by assumption) ?_
            rotate_left
            · (intro w9 hS9; (try dsimp only at hS9); go_simp); all_goals (with_reducible rfl)
            (try simp only [Act.put, List.setIfInBounds_toArray, List.set_cons_zero, List.set_cons_succ])
            refine wpAnyH_take (i := 10) (oi := { dst := some 54, op := Op.extract (Operand.tmp 44) 1, type := 4, pos := "ref.go:62", after := #[{ on := 8, ground := Ground.data }, { on := 11, ground := Ground.gcOnly Departure.lateStores }], guard := none }) (v := ?_) rfl (by kernel_rfl) (by kernel_rfl) (by kernel_rfl) (fun _ _ _ h => h) (Or.inl ⟨by rfl, ?_⟩) (by assumption) ?_
            rotate_left
            · (intro w9 hS9; (try dsimp only at hS9); go_simp); all_goals (with_reducible rfl)
            (try simp only [Act.put, List.setIfInBounds_toArray, List.set_cons_zero, List.set_cons_succ])
            refine wpAnyH_ready (rs := [11]) (by kernel_rfl) (by simp) ?_
            refine AllReadyH.cons (o := { dst := none, op := Op.store 27 (Operand.tmp 3) (Operand.tmp 53), type := 0, pos := "ref.go:62", after := #[{ on := 9, ground := Ground.data }, { on := 7, ground := Ground.chain }, { on := 0, ground := Ground.phase }, { on := 1, ground := Ground.phase }, { on := 2, ground := Ground.phase }, { on := 3, ground := Ground.phase }, { on := 4, ground := Ground.phase }, { on := 5, ground := Ground.phase }, { on := 6, ground := Ground.phase }, { on := 7, ground := Ground.phase }, { on := 8, ground := Ground.phase }, { on := 9, ground := Ground.phase }, { on := 10, ground := Ground.textOnly Departure.lateStores }], guard := none }) rfl (fun K hK => ?_) ?_
            · rw [if_pos (by rfl)]
              refine wp_store_row 27 _ _ rfl _ #[.int .u64 ph', .int .u64 pl'] rfl rfl 27 #[.int .u64 phk, .int .u64 plk] (HY9.out.all (w.heap.size + 1, 27, phk, plk) (by simp)) size27 rfl (one2 _ _) ?_
              (try go_wp2_with fail)
              refine hK.out _ _ ?_ (fun hHeld => ?_)
              · (first | exact HX5.out.drew0.below | exact HY9.out.below | exact below_setRow HY9.out.below _ _ (by omega))
              clear hK K
              (try simp only [Act.put, List.setIfInBounds_toArray, List.set_cons_zero, List.set_cons_succ])
              refine wpAnyH_done (by kernel_rfl) (NoPanic.normal ?_) _
              have HX9 : Hid (Boxes w (v9.setRow (w.heap.size + 1) #[.int .u64 ph', .int .u64 pl']) [(w.heap.size + 1, 27, ph', pl'), (w.heap.size, 27, 0, 0)]) := by
                refine HY9.out.rewrite (w.heap.size + 1) 27 phk plk ph' pl' (by simp) (by omega) (fun z hz => ?_)
                simp only [List.mem_cons, List.not_mem_nil, or_false] at hz
                rcases hz with rfl | rfl
                · exact Or.inl rfl
                · exact Or.inr ⟨by simp, by simp⟩
              generalize v9.setRow (w.heap.size + 1) #[.int .u64 ph', .int .u64 pl'] = W1 at *
              go_wp2_with fail
              go_roundw
              case rel => exact ⟨k + 1, HK.out, rfl, by rw [HQ.out.1, HQ.out.2]; exact HX9.out⟩
              case measure => have := HK.out; simp [intOf]; omega
            exact AllReadyH.nil
          exact AllReadyH.nil
        exact AllReadyH.nil
      refine AllReadyH.cons (o := { dst := some 51, op := Op.build 27 #[(1, Operand.tmp 50)], type := 27, pos := "ref.go:62", after := #[{ on := 5, ground := Ground.data }], guard := none }) rfl (fun K hK => ?_) ?_
      · go_simp
        skip
        (try go_wp2_with fail)
        refine hK.out _ _ ?_ (fun hHeld => ?_)
        · (first | exact HX5.out.drew0.below | exact HY9.out.below | exact below_setRow HY9.out.below _ _ (by omega))
        clear hK K
        (try simp only [Act.put, List.setIfInBounds_toArray, List.set_cons_zero, List.set_cons_succ])
        refine wpAnyH_ready (rs := [0]) (by kernel_rfl) (by simp) ?_
        refine AllReadyH.cons (o := { dst := some 45, op := Op.load 27 (Operand.tmp 11), type := 27, pos := "ref.go:62", after := #[], guard := none }) rfl (fun K hK => ?_) ?_
        · go_simp
          skip
          (try go_wp2_with fail)
          refine hK.out _ _ ?_ (fun hHeld => ?_)
          · (first | exact HX5.out.drew0.below | exact HY9.out.below | exact below_setRow HY9.out.below _ _ (by omega))
          clear hK K
          (try simp only [Act.put, List.setIfInBounds_toArray, List.set_cons_zero, List.set_cons_succ])
          refine wpAnyH_ready (rs := [7]) (by kernel_rfl) (by simp) ?_
          refine AllReadyH.cons (o := { dst := some 52, op := Op.call { callee := Callee.value (Operand.func 20), args := #[Operand.tmp 45, Operand.tmp 51], argTypes := #[27, 27] }, type := 28, pos := "ref.go:62", after := #[{ on := 0, ground := Ground.data }, { on := 6, ground := Ground.data }], guard := none }) rfl (fun K hK => ?_) ?_
          · go_simp
            (with_reducible refine (K5.out _).mono ?_)
            rintro e v9 ⟨rfl, hb1⟩
            have HY9 := Lib.hid (HX5.out.drew0.next hb1)
            clear hb1
            (try go_wp2_with fail)
            refine hK.out _ _ ?_ (fun hHeld => ?_)
            · (first | exact HX5.out.drew0.below | exact HY9.out.below | exact below_setRow HY9.out.below _ _ (by omega))
            clear hK K
            (try simp only [Act.put, List.setIfInBounds_toArray, List.set_cons_zero, List.set_cons_succ])
            refine wpAnyH_take (i := 8) (oi := { dst := some 44, op := Op.move (Operand.tmp 52), type := 28, pos := "ref.go:62", after := #[{ on := 7, ground := Ground.data }], guard := none }) (v := ?_) rfl (by kernel_rfl) (by kernel_rfl) (by kernel_rfl) (fun _ _ _ h => h) (Or.inl ⟨by rfl, ?_⟩) (by assumption) ?_
            rotate_left
            · (intro w9 hS9; (try dsimp only at hS9); go_simp); all_goals (with_reducible rfl)
            (try simp only [Act.put, List.setIfInBounds_toArray, List.set_cons_zero, List.set_cons_succ])
            refine wpAnyH_take (i := 9) (oi := { dst := some 53, op := Op.extract (Operand.tmp 44) 0, type := 27, pos := "ref.go:62", after := #[{ on := 8, ground := Ground.data }], guard := none }) (v := ?_) rfl (by kernel_rfl) (by kernel_rfl) (by kernel_rfl) (fun _ _ _ h => h) (Or.inl ⟨by rfl, ?_⟩) (by assumption) ?_
            rotate_left
            · (intro w9 hS9; (try dsimp only at hS9); go_simp); all_goals (with_reducible rfl)
            (try simp only [Act.put, List.setIfInBounds_toArray, List.set_cons_zero, List.set_cons_succ])
            refine wpAnyH_take (i := 10) (oi := { dst := some 54, op := Op.extract (Operand.tmp 44) 1, type := 4, pos := "ref.go:62", after := #[{ on := 8, ground := Ground.data }, { on := 11, ground := Ground.gcOnly Departure.lateStores }], guard := none }) (v := ?_) rfl (by kernel_rfl) (by kernel_rfl) (by kernel_rfl) (fun _ _ _ h => h) (Or.inl ⟨by rfl, ?_⟩) (by assumption) ?_
            rotate_left
            · (intro w9 hS9; (try dsimp only at hS9); go_simp); all_goals (with_reducible rfl)
            (try simp only [Act.put, List.setIfInBounds_toArray, List.set_cons_zero, List.set_cons_succ])
            refine wpAnyH_ready (rs := [11]) (by kernel_rfl) (by simp) ?_
            refine AllReadyH.cons (o := { dst := none, op := Op.store 27 (Operand.tmp 3) (Operand.tmp 53), type := 0, pos := "ref.go:62", after := #[{ on := 9, ground := Ground.data }, { on := 7, ground := Ground.chain }, { on := 0, ground := Ground.phase }, { on := 1, ground := Ground.phase }, { on := 2, ground := Ground.phase }, { on := 3, ground := Ground.phase }, { on := 4, ground := Ground.phase }, { on := 5, ground := Ground.phase }, { on := 6, ground := Ground.phase }, { on := 7, ground := Ground.phase }, { on := 8, ground := Ground.phase }, { on := 9, ground := Ground.phase }, { on := 10, ground := Ground.textOnly Departure.lateStores }], guard := none }) rfl (fun K hK => ?_) ?_
            · rw [if_pos (by rfl)]
              refine wp_store_row 27 _ _ rfl _ #[.int .u64 ph', .int .u64 pl'] rfl rfl 27 #[.int .u64 phk, .int .u64 plk] (HY9.out.all (w.heap.size + 1, 27, phk, plk) (by simp)) size27 rfl (one2 _ _) ?_
              (try go_wp2_with fail)
              refine hK.out _ _ ?_ (fun hHeld => ?_)
              · (first | exact HX5.out.drew0.below | exact HY9.out.below | exact below_setRow HY9.out.below _ _ (by omega))
              clear hK K
              (try simp only [Act.put, List.setIfInBounds_toArray, List.set_cons_zero, List.set_cons_succ])
              refine wpAnyH_done (by kernel_rfl) (NoPanic.normal ?_) _
              have HX9 : Hid (Boxes w (v9.setRow (w.heap.size + 1) #[.int .u64 ph', .int .u64 pl']) [(w.heap.size + 1, 27, ph', pl'), (w.heap.size, 27, 0, 0)]) := by
                refine HY9.out.rewrite (w.heap.size + 1) 27 phk plk ph' pl' (by simp) (by omega) (fun z hz => ?_)
                simp only [List.mem_cons, List.not_mem_nil, or_false] at hz
                rcases hz with rfl | rfl
                · exact Or.inl rfl
                · exact Or.inr ⟨by simp, by simp⟩
              generalize v9.setRow (w.heap.size + 1) #[.int .u64 ph', .int .u64 pl'] = W1 at *
              go_wp2_with fail
              go_roundw
              case rel => exact ⟨k + 1, HK.out, rfl, by rw [HQ.out.1, HQ.out.2]; exact HX9.out⟩
              case measure => have := HK.out; simp [intOf]; omega
            exact AllReadyH.nil
          exact AllReadyH.nil
        exact AllReadyH.nil
      exact AllReadyH.nil
    · have d1 : decide (k < s.size) = false := decide_eq_false hlt
      obtain rfl : k = s.size := by omega
      obtain ⟨⟨r0, s0⟩, -, -⟩ := hB.at (w.heap.size + 1) 27 (vh s.size) (vl s.size) (by simp)
      have HX1 := Lib.hid hB
      generalize hA : vh s.size = a1 at *
      generalize hA2 : vl s.size = a2 at *
      have HA := Lib.hid hA
      have HA2 := Lib.hid hA2
      clear hB hlt hk hA hA2
      go_wp2_with (refine wpList_store_row rfl 27 _ _ rfl w.heap.size #[.int .u64 a1, .int .u64 a2] rfl rfl 27 #[.int .u64 0, .int .u64 0] (HX1.out.all (w.heap.size, 27, 0, 0) (by simp)) size27 rfl (one2 _ _) ?_)
      obtain ⟨p0, p1⟩ := two_cells (setRow_heap _ _ #[.int .u64 0, .int .u64 0] #[.int .u64 a1, .int .u64 a2] 27 (0, 0) (HX1.out.all (w.heap.size, 27, 0, 0) (by simp)))
      have hB2 := below_setRow HX1.out.below w.heap.size #[.int .u64 a1, .int .u64 a2] (Nat.le_refl _)
      generalize wr.setRow w.heap.size #[.int .u64 a1, .int .u64 a2] = W1 at *
      exact bodyPost_ret (v := wv a1 a2) (by simp [results, Try.results53, go_sem, p0, p1]) rfl ⟨by rw [HA.out, HA2.out], hB2⟩

theorem ten_times (v : Nat) : ((((v + v) % MM + (v + v) % MM) % MM + v) % MM + (((v + v) % MM + (v + v) % MM) % MM + v) % MM) % MM = 10 * v % MM := by
  rw [MM_eq]; omega
/-- The document's Parse: the digits' number. -/
theorem refparse_any (s : ByteArray) (hsz : s.size ≤ 9223372036854775807) (hd : ∀ k, k < s.size → isDig (gb s k)) (w : World) :
    Calls Try.prog 53 #[.string s] w fun e w' => e = .returned (W (pv s s.size % MM)) ∧ Below w.heap.size w w' := by
  have hp : 0 < MM := by decide
  have lt : ∀ x, x % MM < MM := fun x => Nat.mod_lt _ hp
  let v := fun k => pv s k % MM
  let t := fun k => (v k + v k) % MM
  let f := fun k => (t k + t k) % MM
  let g := fun k => (f k + v k) % MM
  let x := fun k => (g k + g k) % MM
  refine refparse_walk s (fun k => v k / M) (fun k => v k % M) (fun k => t k / M) (fun k => t k % M) (fun k => f k / M) (fun k => f k % M) (fun k => g k / M) (fun k => g k % M) (fun k => x k / M) (fun k => x k % M)
    (fun k => decide (MM ≤ v k + v k)) (fun k => decide (MM ≤ t k + t k)) (fun k => decide (MM ≤ f k + v k)) (fun k => decide (MM ≤ g k + g k)) (fun k => decide (MM ≤ x k + (gb s k - 48))) hsz hd
    (by simp [v, pv]) (by simp [v, pv]) (fun k hk w => refadd_any (v k) (v k) (lt _) (lt _) w) (fun k hk w => refadd_any (t k) (t k) (lt _) (lt _) w) (fun k hk w => refadd_any (f k) (v k) (lt _) (lt _) w) (fun k hk w => refadd_any (g k) (g k) (lt _) (lt _) w) (fun k hk w => ?_) w
  have hdg := gb_lt s k
  have hMM : MM = M * M := rfl
  have hM : M = 18446744073709551616 := M_eq
  have hs : gb s k - 48 < MM := by rw [MM_eq]; omega
  have h := refadd_any (x k) (gb s k - 48) (lt _) hs w
  have e1 : W (gb s k - 48) = .agg #[.int .u64 0, .int .u64 ((gb s k - 48 : Nat) : Int)] := by
    rw [W, Nat.div_eq_of_lt (by omega), Nat.mod_eq_of_lt (by omega)]; rfl
  have e2 : (x k + (gb s k - 48)) % MM = v (k + 1) := by
    show (x k + (gb s k - 48)) % MM = pv s (k + 1) % MM
    have : x k = 10 * v k % MM := ten_times (v k)
    rw [this, pv]
    show (10 * (pv s k % MM) % MM + (gb s k - 48)) % MM = _
    rw [MM_eq]; omega
  rw [e1, e2] at h
  exact h

end Go.Proofs.Ytcaeaepnobbjlaa

