import Derived.Test.YtcaeaepnobbjlaaU
namespace Go.Proofs.Ytcaeaepnobbjlaa
set_option linter.unusedVariables false
set_option linter.unusedSimpArgs false
open Go.RowKit

theorem Boxes.put1 {w W : World} {bs bs' : List (Nat × Nat × Nat × Nat)} (h : Boxes w W bs) (b t p q q' : Nat) (hm : (b, t, p, q) ∈ bs) (hg : w.heap.size ≤ b)
    (hbs : ∀ x ∈ bs', x = (b, t, p, q') ∨ (x ∈ bs ∧ x.1 ≠ b)) : Boxes w (W.setCell ⟨b, 1, none⟩ (.int .u64 (q' : Int))) bs' := by
  refine ⟨h.below.setCell hg _, fun x hx => ?_⟩
  rcases hbs x hx with rfl | ⟨hx, hn⟩
  · exact heap_setCell_same _ _ _ _ _ _ (h.all _ hm)
  · exact old_set _ hn (h.all x hx)
theorem Boxes.rewrite {w W : World} {bs bs' : List (Nat × Nat × Nat × Nat)} (h : Boxes w W bs) (b t p q p' q' : Nat) (hm : (b, t, p, q) ∈ bs) (hg : w.heap.size ≤ b)
    (hbs : ∀ x ∈ bs', x = (b, t, p', q') ∨ (x ∈ bs ∧ x.1 ≠ b)) : Boxes w (W.setRow b #[.int .u64 (p' : Int), .int .u64 (q' : Int)]) bs' := by
  refine ⟨below_setRow h.below _ _ hg, fun x hx => ?_⟩
  rcases hbs x hx with rfl | ⟨hx, hn⟩
  · exact setRow_heap _ _ #[.int .u64 (p : Int), .int .u64 (q : Int)] _ t (0, 0) (h.all _ hm)
  · exact old_row _ hn (h.all x hx)

/-- What a round of num.tenth does. -/
structure TenS (bt : Bool) (lf el lf' ql' : Nat) : Prop where
  small : lf < 10
  step : (bt = false ∧ 2 * lf < 10 ∧ lf' = 2 * lf ∧ ql' = el) ∨ (bt = false ∧ 10 ≤ 2 * lf ∧ lf' = 2 * lf - 10 ∧ bits .or .u64 (el : Int) 1 = (ql' : Int)) ∨
    (bt = true ∧ 2 * lf + 1 < 10 ∧ lf' = 2 * lf + 1 ∧ ql' = el) ∨ (bt = true ∧ 10 ≤ 2 * lf + 1 ∧ lf' = 2 * lf + 1 - 10 ∧ bits .or .u64 (el : Int) 1 = (ql' : Int))

set_option maxRecDepth 100000 in
set_option maxHeartbeats 16000000 in
theorem tenth_walk (ah al : Nat) (qh ql lf el : Nat → Nat) (bt : Nat → Bool) (h0 : qh 0 = 0) (h1 : ql 0 = 0) (h2 : lf 0 = 0)
    (c1 : ∀ (k : Nat) (hk : k < 128) w, Calls Try.prog 40 #[wv ah al, .int .i64 k] w fun e w' => e = .returned (.bool (bt k)) ∧ Below w.heap.size w w')
    (c2 : ∀ (k : Nat) (hk : k < 128) w, Calls Try.prog 30 #[wv (qh k) (ql k), .int .i64 1] w fun e w' => e = .returned (wv (qh (k + 1)) (el k)) ∧ Below w.heap.size w w')
    (hs : ∀ (k : Nat) (hk : k < 128), TenS (bt k) (lf k) (el k) (lf (k + 1)) (ql (k + 1))) (hl : lf 128 < 10) (w : World) :
    Calls Try.prog 76 #[wv ah al] w fun e w' => e = .returned (.tuple #[wv (qh 128) (ql 128), .int .u8 (lf 128)]) ∧ Below w.heap.size w w' := by
  have C1 := Lib.hid c1
  have C2 := Lib.hid c2
  have HS := Lib.hid hs
  have H0 : Hid (qh 0 = 0 ∧ ql 0 = 0 ∧ lf 0 = 0) := ⟨h0, h1, h2⟩
  have HL := Lib.hid hl
  clear c1 c2 hs h0 h1 h2 hl
  go_enter Try.func76, Try.ntmps76
  go_wp2_with fail
  have hX := (((Boxes.nil w).new 24 ah al).new 24 0 0).new 24 0 0
  simp only [size_alloc, Int.natCast_zero] at hX
  generalize ((w.alloc (.cells #[.int .u64 ah, .int .u64 al] 24)).alloc (.cells #[.int .u64 0, .int .u64 0] 24)).alloc (.cells #[.int .u64 0, .int .u64 0] 24) = w0 at *
  have HX0 : Hid (Boxes w w0 [(w.heap.size + 1 + 1, 24, 0, 0), (w.heap.size + 1, 24, 0, 0), (w.heap.size, 24, ah, al)]) := hX
  clear hX
  go_loopw [5, 7] (fun l i wr => ∃ k : Nat, k ≤ 128 ∧ i = .int .i64 k ∧ l = .int .u64 (lf k) ∧ Boxes w wr [(w.heap.size + 1 + 1, 24, qh k, ql k), (w.heap.size + 1, 24, 0, 0), (w.heap.size, 24, ah, al)]) (fun _ i _ => (128 - intOf i).toNat)
  case atStart => exact ⟨0, by omega, rfl, by rw [H0.out.2.2]; rfl, by rw [H0.out.1, H0.out.2.1]; exact HX0.out⟩
  case round =>
    obtain ⟨k, hk, rfl, rfl, hB⟩ := hrel
    by_cases hlt : k < 128
    · have hd : decide ((k : Int) < 128) = true := by simp; omega
      have e9 : IntKind.i64.wrap ((k : Int) + 1) = ((k + 1 : Nat) : Int) := by rw [IntWalk.i64_in _ (by omega)]; omega
      have HK : Hid (k < 128) := hlt
      have K1 := Lib.hid (C1.out k hlt)
      have K2 := Lib.hid (C2.out k hlt)
      obtain ⟨hsm, hst⟩ := HS.out k hlt
      have e1 : IntKind.u64.wrap ((lf k : Int) * 2) = ((2 * lf k : Nat) : Int) := by rw [IntKind.wrap_u64]; omega
      have e2 : IntKind.u64.wrap (((2 * lf k : Nat) : Int) + 1) = ((2 * lf k + 1 : Nat) : Int) := by rw [IntKind.wrap_u64]; omega
      obtain ⟨⟨r0, s0⟩, -, -⟩ := hB.at (w.heap.size) 24 ah al (by simp)
      have HX1 := Lib.hid hB
      generalize hqh : qh (k + 1) = qh' at *
      generalize hql : ql (k + 1) = ql' at *
      generalize hlf : lf (k + 1) = lf' at *
      have HQ : Hid (qh (k + 1) = qh' ∧ ql (k + 1) = ql' ∧ lf (k + 1) = lf') := ⟨hqh, hql, hlf⟩
      generalize qh k = q0 at *
      generalize ql k = q1 at *
      generalize el k = x at *
      generalize bt k = c at *
      clear hB hlt hk hqh hql hlf
      rcases hst with ⟨rfl, hg, hl, hq⟩ | ⟨rfl, hg, hl, hq⟩ | ⟨rfl, hg, hl, hq⟩ | ⟨rfl, hg, hl, hq⟩
      · have d2 : decide (((2 * lf k : Nat) : Int) ≥ 10) = false := by simp; omega
        have d2' : decide (10 ≤ 2 * lf k) = false := decide_eq_false (by omega)
        have HW : Hid (lf' = 2 * lf k) := hl
        clear hl hg hsm
        generalize hy : 2 * lf k = y at *
        clear hy
        subst ql'
        go_wp2_with (first
          | (go_at_call 40; (with_reducible refine (K1.out _).mono ?_); rintro e w1 ⟨rfl, hb1⟩
             have HX2 := Lib.hid (HX1.out.next hb1)
             obtain ⟨⟨r1, s1⟩, -, -⟩ := HX2.out.at (w.heap.size + 1 + 1) 24 q0 q1 (by simp)
             clear hb1)
          | (go_at_call 30; (with_reducible refine (K2.out _).mono ?_); rintro e w2 ⟨rfl, hb1⟩
             have HX3 := Lib.hid (HX2.out.next hb1)
             clear hb1)
          | (refine wpList_store_row rfl 24 _ _ rfl (w.heap.size + 1 + 1) #[.int .u64 qh', .int .u64 x] rfl rfl 24 #[.int .u64 q0, .int .u64 q1] (HX3.out.all (w.heap.size + 1 + 1, 24, q0, q1) (by simp)) size24 rfl (one2 _ _) ?_
             have HX4 : Hid (Boxes w (w2.setRow (w.heap.size + 1 + 1) #[.int .u64 qh', .int .u64 x]) [(w.heap.size + 1 + 1, 24, qh', x), (w.heap.size + 1, 24, 0, 0), (w.heap.size, 24, ah, al)]) := by
               refine HX3.out.rewrite (w.heap.size + 1 + 1) 24 q0 q1 qh' x (by simp) (by omega) (fun z hz => ?_)
               simp only [List.mem_cons, List.not_mem_nil, or_false] at hz
               rcases hz with rfl | rfl | rfl
               · exact Or.inl rfl
               · exact Or.inr ⟨by simp, by simp⟩
               · exact Or.inr ⟨by simp, by simp; omega⟩
             generalize w2.setRow (w.heap.size + 1 + 1) #[.int .u64 qh', .int .u64 x] = w3 at *
             obtain ⟨⟨r2, s2⟩, f2, g2⟩ := HX4.out.at (w.heap.size + 1 + 1) 24 qh' x (by simp)))
        go_roundw
        case rel => exact ⟨k + 1, HK.out, rfl, by rw [HQ.out.2.2]; rw [HW.out], by rw [HQ.out.1, HQ.out.2.1]; exact HX4.out⟩
        case measure => have := HK.out; simp [intOf]; omega
      · have d2 : decide (((2 * lf k : Nat) : Int) ≥ 10) = true := by simp; omega
        have d2' : decide (10 ≤ 2 * lf k) = true := decide_eq_true hg
        have e3 : IntKind.u64.wrap (((2 * lf k : Nat) : Int) - 10) = ((lf' : Nat) : Int) := by rw [IntKind.wrap_u64]; omega
        have HW : Hid (lf' = 2 * lf k - 10) := hl
        clear hl hg hsm
        generalize hy : 2 * lf k = y at *
        clear hy
        go_wp2_with (first
          | (go_at_call 40; (with_reducible refine (K1.out _).mono ?_); rintro e w1 ⟨rfl, hb1⟩
             have HX2 := Lib.hid (HX1.out.next hb1)
             obtain ⟨⟨r1, s1⟩, -, -⟩ := HX2.out.at (w.heap.size + 1 + 1) 24 q0 q1 (by simp)
             clear hb1)
          | (go_at_call 30; (with_reducible refine (K2.out _).mono ?_); rintro e w2 ⟨rfl, hb1⟩
             have HX3 := Lib.hid (HX2.out.next hb1)
             clear hb1)
          | (refine wpList_store_row rfl 24 _ _ rfl (w.heap.size + 1 + 1) #[.int .u64 qh', .int .u64 x] rfl rfl 24 #[.int .u64 q0, .int .u64 q1] (HX3.out.all (w.heap.size + 1 + 1, 24, q0, q1) (by simp)) size24 rfl (one2 _ _) ?_
             have HX4 : Hid (Boxes w (w2.setRow (w.heap.size + 1 + 1) #[.int .u64 qh', .int .u64 x]) [(w.heap.size + 1 + 1, 24, qh', x), (w.heap.size + 1, 24, 0, 0), (w.heap.size, 24, ah, al)]) := by
               refine HX3.out.rewrite (w.heap.size + 1 + 1) 24 q0 q1 qh' x (by simp) (by omega) (fun z hz => ?_)
               simp only [List.mem_cons, List.not_mem_nil, or_false] at hz
               rcases hz with rfl | rfl | rfl
               · exact Or.inl rfl
               · exact Or.inr ⟨by simp, by simp⟩
               · exact Or.inr ⟨by simp, by simp; omega⟩
             generalize w2.setRow (w.heap.size + 1 + 1) #[.int .u64 qh', .int .u64 x] = w3 at *
             obtain ⟨⟨r2, s2⟩, f2, g2⟩ := HX4.out.at (w.heap.size + 1 + 1) 24 qh' x (by simp)))
        have HX5 : Hid (Boxes w (w3.setCell ⟨w.heap.size + 1 + 1, 1, none⟩ (.int .u64 ql')) [(w.heap.size + 1 + 1, 24, qh', ql'), (w.heap.size + 1, 24, 0, 0), (w.heap.size, 24, ah, al)]) := by
          refine HX4.out.put1 (w.heap.size + 1 + 1) 24 qh' x ql' (by simp) (by omega) (fun z hz => ?_)
          simp only [List.mem_cons, List.not_mem_nil, or_false] at hz
          rcases hz with rfl | rfl | rfl
          · exact Or.inl rfl
          · exact Or.inr ⟨by simp, by simp⟩
          · exact Or.inr ⟨by simp, by simp; omega⟩
        go_roundw
        case rel => exact ⟨k + 1, HK.out, rfl, by rw [HQ.out.2.2], by rw [HQ.out.1, HQ.out.2.1]; exact HX5.out⟩
        case measure => have := HK.out; simp [intOf]; omega
      · have d2 : decide (((2 * lf k + 1 : Nat) : Int) ≥ 10) = false := by simp; omega
        have d2' : decide (10 ≤ 2 * lf k + 1) = false := decide_eq_false (by omega)
        have HW : Hid (lf' = 2 * lf k + 1) := hl
        clear hl hg hsm
        generalize hy1 : 2 * lf k + 1 = y1 at *
        clear hy1
        generalize hy : 2 * lf k = y at *
        clear hy
        subst ql'
        go_wp2_with (first
          | (go_at_call 40; (with_reducible refine (K1.out _).mono ?_); rintro e w1 ⟨rfl, hb1⟩
             have HX2 := Lib.hid (HX1.out.next hb1)
             obtain ⟨⟨r1, s1⟩, -, -⟩ := HX2.out.at (w.heap.size + 1 + 1) 24 q0 q1 (by simp)
             clear hb1)
          | (go_at_call 30; (with_reducible refine (K2.out _).mono ?_); rintro e w2 ⟨rfl, hb1⟩
             have HX3 := Lib.hid (HX2.out.next hb1)
             clear hb1)
          | (refine wpList_store_row rfl 24 _ _ rfl (w.heap.size + 1 + 1) #[.int .u64 qh', .int .u64 x] rfl rfl 24 #[.int .u64 q0, .int .u64 q1] (HX3.out.all (w.heap.size + 1 + 1, 24, q0, q1) (by simp)) size24 rfl (one2 _ _) ?_
             have HX4 : Hid (Boxes w (w2.setRow (w.heap.size + 1 + 1) #[.int .u64 qh', .int .u64 x]) [(w.heap.size + 1 + 1, 24, qh', x), (w.heap.size + 1, 24, 0, 0), (w.heap.size, 24, ah, al)]) := by
               refine HX3.out.rewrite (w.heap.size + 1 + 1) 24 q0 q1 qh' x (by simp) (by omega) (fun z hz => ?_)
               simp only [List.mem_cons, List.not_mem_nil, or_false] at hz
               rcases hz with rfl | rfl | rfl
               · exact Or.inl rfl
               · exact Or.inr ⟨by simp, by simp⟩
               · exact Or.inr ⟨by simp, by simp; omega⟩
             generalize w2.setRow (w.heap.size + 1 + 1) #[.int .u64 qh', .int .u64 x] = w3 at *
             obtain ⟨⟨r2, s2⟩, f2, g2⟩ := HX4.out.at (w.heap.size + 1 + 1) 24 qh' x (by simp)))
        go_roundw
        case rel => exact ⟨k + 1, HK.out, rfl, by rw [HQ.out.2.2]; rw [HW.out], by rw [HQ.out.1, HQ.out.2.1]; exact HX4.out⟩
        case measure => have := HK.out; simp [intOf]; omega
      · have d2 : decide (((2 * lf k + 1 : Nat) : Int) ≥ 10) = true := by simp; omega
        have d2' : decide (10 ≤ 2 * lf k + 1) = true := decide_eq_true hg
        have e3 : IntKind.u64.wrap (((2 * lf k + 1 : Nat) : Int) - 10) = ((lf' : Nat) : Int) := by rw [IntKind.wrap_u64]; omega
        have HW : Hid (lf' = 2 * lf k + 1 - 10) := hl
        clear hl hg hsm
        generalize hy1 : 2 * lf k + 1 = y1 at *
        clear hy1
        generalize hy : 2 * lf k = y at *
        clear hy
        go_wp2_with (first
          | (go_at_call 40; (with_reducible refine (K1.out _).mono ?_); rintro e w1 ⟨rfl, hb1⟩
             have HX2 := Lib.hid (HX1.out.next hb1)
             obtain ⟨⟨r1, s1⟩, -, -⟩ := HX2.out.at (w.heap.size + 1 + 1) 24 q0 q1 (by simp)
             clear hb1)
          | (go_at_call 30; (with_reducible refine (K2.out _).mono ?_); rintro e w2 ⟨rfl, hb1⟩
             have HX3 := Lib.hid (HX2.out.next hb1)
             clear hb1)
          | (refine wpList_store_row rfl 24 _ _ rfl (w.heap.size + 1 + 1) #[.int .u64 qh', .int .u64 x] rfl rfl 24 #[.int .u64 q0, .int .u64 q1] (HX3.out.all (w.heap.size + 1 + 1, 24, q0, q1) (by simp)) size24 rfl (one2 _ _) ?_
             have HX4 : Hid (Boxes w (w2.setRow (w.heap.size + 1 + 1) #[.int .u64 qh', .int .u64 x]) [(w.heap.size + 1 + 1, 24, qh', x), (w.heap.size + 1, 24, 0, 0), (w.heap.size, 24, ah, al)]) := by
               refine HX3.out.rewrite (w.heap.size + 1 + 1) 24 q0 q1 qh' x (by simp) (by omega) (fun z hz => ?_)
               simp only [List.mem_cons, List.not_mem_nil, or_false] at hz
               rcases hz with rfl | rfl | rfl
               · exact Or.inl rfl
               · exact Or.inr ⟨by simp, by simp⟩
               · exact Or.inr ⟨by simp, by simp; omega⟩
             generalize w2.setRow (w.heap.size + 1 + 1) #[.int .u64 qh', .int .u64 x] = w3 at *
             obtain ⟨⟨r2, s2⟩, f2, g2⟩ := HX4.out.at (w.heap.size + 1 + 1) 24 qh' x (by simp)))
        have HX5 : Hid (Boxes w (w3.setCell ⟨w.heap.size + 1 + 1, 1, none⟩ (.int .u64 ql')) [(w.heap.size + 1 + 1, 24, qh', ql'), (w.heap.size + 1, 24, 0, 0), (w.heap.size, 24, ah, al)]) := by
          refine HX4.out.put1 (w.heap.size + 1 + 1) 24 qh' x ql' (by simp) (by omega) (fun z hz => ?_)
          simp only [List.mem_cons, List.not_mem_nil, or_false] at hz
          rcases hz with rfl | rfl | rfl
          · exact Or.inl rfl
          · exact Or.inr ⟨by simp, by simp⟩
          · exact Or.inr ⟨by simp, by simp; omega⟩
        go_roundw
        case rel => exact ⟨k + 1, HK.out, rfl, by rw [HQ.out.2.2], by rw [HQ.out.1, HQ.out.2.1]; exact HX5.out⟩
        case measure => have := HK.out; simp [intOf]; omega
    · obtain rfl : k = 128 := by omega
      have hd : decide (((128 : Nat) : Int) < 128) = false := by simp
      have e1 : IntKind.u8.wrap (lf 128 : Int) = (lf 128 : Int) := by have := HL.out; rw [IntKind.wrap_u8]; omega
      obtain ⟨⟨r0, s0⟩, -, -⟩ := hB.at (w.heap.size + 1 + 1) 24 (qh 128) (ql 128) (by simp)
      have HX1 := Lib.hid hB
      generalize hqh : qh 128 = qh' at *
      generalize hql : ql 128 = ql' at *
      generalize hlf : lf 128 = lf' at *
      have HQ : Hid (qh 128 = qh' ∧ ql 128 = ql' ∧ lf 128 = lf') := ⟨hqh, hql, hlf⟩
      clear hB hlt hk hqh hql hlf
      go_wp2_with (refine wpList_store_row rfl 24 _ _ rfl (w.heap.size + 1) #[.int .u64 qh', .int .u64 ql'] rfl rfl 24 #[.int .u64 0, .int .u64 0] (HX1.out.all (w.heap.size + 1, 24, 0, 0) (by simp)) size24 rfl (one2 _ _) ?_)
      obtain ⟨p0, p1⟩ := two_cells (setRow_heap _ _ #[.int .u64 0, .int .u64 0] #[.int .u64 qh', .int .u64 ql'] 24 (0, 0) (HX1.out.all (w.heap.size + 1, 24, 0, 0) (by simp)))
      have hB2 := below_setRow HX1.out.below (w.heap.size + 1) #[.int .u64 qh', .int .u64 ql'] (by omega)
      generalize wr.setRow (w.heap.size + 1) #[.int .u64 qh', .int .u64 ql'] = W1 at *
      exact bodyPost_ret (v := .tuple #[wv qh' ql', .int .u8 lf']) (by simp [results, Try.results76, go_sem, p0, p1]) rfl ⟨by rw [HQ.out.1, HQ.out.2.1, HQ.out.2.2], hB2⟩

theorem even_or (x : Nat) (hx : x < M) (h : x % 2 = 0) : bits .or .u64 (x : Int) 1 = ((x + 1 : Nat) : Int) := by
  have hl : M = 18446744073709551616 := M_eq
  have h1 := bits_or_u64_nat x 1 (by omega) (by omega)
  have e : x ||| 1 = x + 1 := by
    obtain ⟨y, rfl⟩ : ∃ y, x = 2 ^ 1 * y := ⟨x / 2, by omega⟩
    rw [← Nat.two_pow_add_eq_or_of_lt (by omega)]
  rw [e] at h1
  exact h1
theorem top_bits (n k : Nat) (hk : k < 128) : n / 2 ^ (128 - (k + 1)) = 2 * (n / 2 ^ (128 - k)) + bitOf n k := by
  have e : 128 - k = (128 - (k + 1)) + 1 := by omega
  rw [e, Nat.pow_succ, ← Nat.div_div_eq_div_mul, bitOf, show 127 - k = 128 - (k + 1) by omega]
  omega

/-- A number by ten, and what is left. -/
theorem tenth_any (n : Nat) (hn : n < MM) (w : World) :
    Calls Try.prog 76 #[W n] w fun e w' => e = .returned (.tuple #[W (n / 10), .int .u8 ((n % 10 : Nat) : Int)]) ∧ Below w.heap.size w w' := by
  have hM : 0 < M := by rw [M_eq]; omega
  have hle : ∀ k, n / 2 ^ (128 - k) / 10 < MM := fun k => Nat.lt_of_le_of_lt (Nat.le_trans (Nat.div_le_self _ _) (Nat.div_le_self _ _)) hn
  have hstep : ∀ k, k < 128 → n / 2 ^ (128 - k) / 10 * 2 < MM := fun k hk => by
    have h1 := top_bits n k hk
    have h2 : n / 2 ^ (128 - (k + 1)) ≤ n := Nat.div_le_self _ _
    omega
  have h := tenth_walk (n / M) (n % M) (fun k => n / 2 ^ (128 - k) / 10 / M) (fun k => n / 2 ^ (128 - k) / 10 % M) (fun k => n / 2 ^ (128 - k) % 10) (fun k => n / 2 ^ (128 - k) / 10 * 2 % M) (fun k => decide (bitOf n k = 1))
    ?_ ?_ ?_ (fun k hk w => ?_) (fun k hk w => ?_) (fun k hk => ?_) (Nat.mod_lt _ (by omega)) w
  · simp only [Nat.sub_self, Nat.pow_zero, Nat.div_one] at h
    exact h
  · simp [← MM_pow, Nat.div_eq_of_lt hn]
  · rw [Nat.sub_zero, ← MM_pow, Nat.div_eq_of_lt hn, Nat.zero_div, Nat.zero_mod]
  · rw [Nat.sub_zero, ← MM_pow, Nat.div_eq_of_lt hn, Nat.zero_mod]
  · have h := bit_any n hn (k : Int) w
    have e : bitB n (k : Int) = decide (bitOf n k = 1) := by
      rw [bitB, Int.toNat_natCast]
      exact decide_eq_decide.2 ⟨fun c => c.2.2, fun c => ⟨by omega, by omega, c⟩⟩
    rw [e] at h
    exact h
  · have h := left_any (n / 2 ^ (128 - k) / 10) (hle k) 1 w
    have e : n / 2 ^ (128 - k) / 10 * 2 ^ (1 : Int).toNat % MM = n / 2 ^ (128 - k) / 10 * 2 := by
      rw [show (1 : Int).toNat = 1 from rfl, Nat.pow_one, Nat.mod_eq_of_lt (hstep k hk)]
    rw [e] at h
    have e2 : n / 2 ^ (128 - (k + 1)) / 10 / M = n / 2 ^ (128 - k) / 10 * 2 / M := by
      have h1 := top_bits n k hk
      have hb := bitOf_le n k
      have hl : M = 18446744073709551616 := M_eq
      generalize n / 2 ^ (128 - k) = z at *
      generalize n / 2 ^ (128 - (k + 1)) = y at *
      rw [hl]
      omega
    rw [e2]
    exact h
  · have h1 := top_bits n k hk
    have hb := bitOf_le n k
    have hl : M = 18446744073709551616 := M_eq
    have hx := even_or (n / 2 ^ (128 - k) / 10 * 2 % M) (Nat.mod_lt _ hM) (by rw [hl]; omega)
    generalize n / 2 ^ (128 - k) = z at *
    generalize n / 2 ^ (128 - (k + 1)) = y at *
    refine ⟨Nat.mod_lt _ (by omega), ?_⟩
    generalize hbk : bitOf n k = c at *
    have hc : c = 0 ∨ c = 1 := by omega
    rcases hc with rfl | rfl
    · by_cases g : 2 * (z % 10) < 10
      · exact Or.inl ⟨rfl, g, by omega, by rw [hl]; omega⟩
      · refine Or.inr (Or.inl ⟨rfl, by omega, by omega, ?_⟩)
        rw [hx]
        rw [hl]
        omega
    · by_cases g : 2 * (z % 10) + 1 < 10
      · exact Or.inr (Or.inr (Or.inl ⟨rfl, g, by omega, by rw [hl]; omega⟩))
      · refine Or.inr (Or.inr (Or.inr ⟨rfl, by omega, by omega, ?_⟩))
        rw [hx]
        rw [hl]
        omega

end Go.Proofs.Ytcaeaepnobbjlaa

