import Derived.Test.YtcaeaepnobbjlaaNc
namespace Go.Proofs.Ytcaeaepnobbjlaa
set_option linter.unusedVariables false
set_option linter.unusedSimpArgs false
open Go.RowKit

set_option maxRecDepth 100000 in
set_option maxHeartbeats 16000000 in
theorem more_walk (ah al d dh dl rh rl : Nat) (sh sl : Nat → Nat) (ov ob : Nat → Bool) (o2 : Bool) (h0 : sh 0 = 0) (h1 : sl 0 = 0) (h2 : ov 0 = false) (ho : ∀ k, ov (k + 1) = (ov k || ob k))
    (c1 : ∀ (k : Nat) (hk : k < 10) w, Calls Try.prog 19 #[wv (sh k) (sl k), wv ah al] w fun e w' => e = .returned (.tuple #[wv (sh (k + 1)) (sl (k + 1)), .bool (ob k)]) ∧ Below w.heap.size w w')
    (c2 : ∀ w, Calls Try.prog 27 #[.int .u64 d] w fun e w' => e = .returned (wv dh dl) ∧ Below w.heap.size w w')
    (c3 : ∀ w, Calls Try.prog 19 #[wv (sh 10) (sl 10), wv dh dl] w fun e w' => e = .returned (.tuple #[wv rh rl, .bool o2]) ∧ Below w.heap.size w w')
    (e1 : IntKind.u64.wrap (d : Int) = d) (w : World) :
    Calls Try.prog 80 #[wv ah al, .int .u8 d] w fun e w' => e = .returned (.tuple #[wv rh rl, .bool (ov 10 || o2)]) ∧ Below w.heap.size w w' := by
  have C1 := Lib.hid c1
  have C2 := Lib.hid c2
  have C3 := Lib.hid c3
  have H0 : Hid (sh 0 = 0 ∧ sl 0 = 0 ∧ ov 0 = false) := ⟨h0, h1, h2⟩
  have HO := Lib.hid ho
  clear c1 c2 c3 h0 h1 h2 ho
  go_enter Try.func80, Try.ntmps80
  go_wp2_with fail
  have hX := (((Boxes.nil w).new 24 ah al).new 24 0 0).new 24 0 0
  simp only [size_alloc, Int.natCast_zero] at hX
  generalize ((w.alloc (.cells #[.int .u64 ah, .int .u64 al] 24)).alloc (.cells #[.int .u64 0, .int .u64 0] 24)).alloc (.cells #[.int .u64 0, .int .u64 0] 24) = w0 at *
  have HX0 : Hid (Boxes w w0 [(w.heap.size + 1 + 1, 24, 0, 0), (w.heap.size + 1, 24, 0, 0), (w.heap.size, 24, ah, al)]) := hX
  clear hX
  go_loopw [7, 13] (fun v i wr => ∃ k : Nat, k ≤ 10 ∧ i = .int .i64 k ∧ v = .bool (ov k) ∧ Boxes w wr [(w.heap.size + 1 + 1, 24, sh k, sl k), (w.heap.size + 1, 24, 0, 0), (w.heap.size, 24, ah, al)]) (fun _ i _ => (10 - intOf i).toNat)
  case atStart => exact ⟨0, by omega, rfl, by rw [H0.out.2.2], by rw [H0.out.1, H0.out.2.1]; exact HX0.out⟩
  case round =>
    obtain ⟨k, hk, rfl, rfl, hB⟩ := hrel
    by_cases hlt : k < 10
    · have hd : decide ((k : Int) < 10) = true := by simp; omega
      have e9 : IntKind.i64.wrap ((k : Int) + 1) = ((k + 1 : Nat) : Int) := by rw [IntWalk.i64_in _ (by omega)]; omega
      have HK : Hid (k < 10) := hlt
      have K1 := Lib.hid (C1.out k hlt)
      obtain ⟨⟨r0, s0⟩, -, -⟩ := hB.at (w.heap.size) 24 ah al (by simp)
      obtain ⟨⟨r1, s1⟩, -, -⟩ := hB.at (w.heap.size + 1 + 1) 24 (sh k) (sl k) (by simp)
      have HX1 := Lib.hid hB
      have hov := HO.out k
      generalize hsh : sh (k + 1) = sh' at *
      generalize hsl : sl (k + 1) = sl' at *
      generalize hov' : ov (k + 1) = ov' at *
      have HQ : Hid (sh (k + 1) = sh' ∧ sl (k + 1) = sl' ∧ ov (k + 1) = ov') := ⟨hsh, hsl, hov'⟩
      generalize sh k = q0 at *
      generalize sl k = q1 at *
      generalize ov k = c at *
      generalize ob k = c2 at *
      clear hB hlt hk hsh hsl hov'
      subst ov'
      cases c
      · go_wp2_with (first
          | (go_at_call 19; (with_reducible refine (K1.out _).mono ?_); rintro e w1 ⟨rfl, hb1⟩
             have HX2 := Lib.hid (HX1.out.next hb1)
             clear hb1)
          | (obtain ⟨w2, hw⟩ : ∃ w2, w1.alloc (.cells #[.int .u64 sh', .int .u64 sl'] 24) = w2 := ⟨_, rfl⟩
             rewrite [hw]
             have HX3 : Hid (Boxes w w2 [(w1.heap.size, 24, sh', sl'), (w.heap.size + 1 + 1, 24, q0, q1), (w.heap.size + 1, 24, 0, 0), (w.heap.size, 24, ah, al)]) := by rewrite [← hw]; exact HX2.out.new 24 sh' sl'
             have HV : Hid (w.heap.size + 1 + 1 < w1.heap.size) := HX2.out.lt (w.heap.size + 1 + 1, 24, q0, q1) (by simp)
             clear hw HX2
             generalize w1.heap.size = b8 at *
             obtain ⟨⟨r2, s2⟩, -, -⟩ := HX3.out.at b8 24 sh' sl' (by simp))
          | (refine wpList_store_row rfl 24 _ _ rfl (w.heap.size + 1 + 1) #[.int .u64 sh', .int .u64 sl'] rfl rfl 24 #[.int .u64 q0, .int .u64 q1] (HX3.out.all (w.heap.size + 1 + 1, 24, q0, q1) (by simp)) size24 rfl (one2 _ _) ?_))
        have HX4 : Hid (Boxes w (w2.setRow (w.heap.size + 1 + 1) #[.int .u64 sh', .int .u64 sl']) [(w.heap.size + 1 + 1, 24, sh', sl'), (w.heap.size + 1, 24, 0, 0), (w.heap.size, 24, ah, al)]) := by
          refine HX3.out.rewrite (w.heap.size + 1 + 1) 24 q0 q1 sh' sl' (by simp) (by omega) (fun z hz => ?_)
          simp only [List.mem_cons, List.not_mem_nil, or_false] at hz
          rcases hz with rfl | rfl | rfl
          · exact Or.inl rfl
          · exact Or.inr ⟨by simp, by simp⟩
          · exact Or.inr ⟨by simp, by simp; omega⟩
        go_roundw
        case rel => exact ⟨k + 1, HK.out, rfl, by rw [HQ.out.2.2]; rfl, by rw [HQ.out.1, HQ.out.2.1]; exact HX4.out⟩
        case measure => have := HK.out; simp [intOf]; omega
      · go_wp2_with (first
          | (go_at_call 19; (with_reducible refine (K1.out _).mono ?_); rintro e w1 ⟨rfl, hb1⟩
             have HX2 := Lib.hid (HX1.out.next hb1)
             clear hb1)
          | (obtain ⟨w2, hw⟩ : ∃ w2, w1.alloc (.cells #[.int .u64 sh', .int .u64 sl'] 24) = w2 := ⟨_, rfl⟩
             rewrite [hw]
             have HX3 : Hid (Boxes w w2 [(w1.heap.size, 24, sh', sl'), (w.heap.size + 1 + 1, 24, q0, q1), (w.heap.size + 1, 24, 0, 0), (w.heap.size, 24, ah, al)]) := by rewrite [← hw]; exact HX2.out.new 24 sh' sl'
             have HV : Hid (w.heap.size + 1 + 1 < w1.heap.size) := HX2.out.lt (w.heap.size + 1 + 1, 24, q0, q1) (by simp)
             clear hw HX2
             generalize w1.heap.size = b8 at *
             obtain ⟨⟨r2, s2⟩, -, -⟩ := HX3.out.at b8 24 sh' sl' (by simp))
          | (refine wpList_store_row rfl 24 _ _ rfl (w.heap.size + 1 + 1) #[.int .u64 sh', .int .u64 sl'] rfl rfl 24 #[.int .u64 q0, .int .u64 q1] (HX3.out.all (w.heap.size + 1 + 1, 24, q0, q1) (by simp)) size24 rfl (one2 _ _) ?_))
        have HX4 : Hid (Boxes w (w2.setRow (w.heap.size + 1 + 1) #[.int .u64 sh', .int .u64 sl']) [(w.heap.size + 1 + 1, 24, sh', sl'), (w.heap.size + 1, 24, 0, 0), (w.heap.size, 24, ah, al)]) := by
          refine HX3.out.rewrite (w.heap.size + 1 + 1) 24 q0 q1 sh' sl' (by simp) (by omega) (fun z hz => ?_)
          simp only [List.mem_cons, List.not_mem_nil, or_false] at hz
          rcases hz with rfl | rfl | rfl
          · exact Or.inl rfl
          · exact Or.inr ⟨by simp, by simp⟩
          · exact Or.inr ⟨by simp, by simp; omega⟩
        go_roundw
        case rel => exact ⟨k + 1, HK.out, rfl, by rw [HQ.out.2.2]; rfl, by rw [HQ.out.1, HQ.out.2.1]; exact HX4.out⟩
        case measure => have := HK.out; simp [intOf]; omega
    · obtain rfl : k = 10 := by omega
      have hd : decide (((10 : Nat) : Int) < 10) = false := by simp
      have HX1 := Lib.hid hB
      generalize sh 10 = q0 at *
      generalize sl 10 = q1 at *
      generalize hc : ov 10 = c at *
      have HC := Lib.hid hc
      clear hB hlt hk hc
      go_wp2_with fail
      go_cut [10, 11] from 27 to 34 (fun s10 s11 wx => ∃ b10 : Nat, s10 = .pointer (some ⟨b10, 0, none⟩) ∧ s11 = .bool o2 ∧ Boxes w wx [(b10, 24, rh, rl), (w.heap.size + 1 + 1, 24, q0, q1), (w.heap.size + 1, 24, 0, 0), (w.heap.size, 24, ah, al)])
      case first =>
        have HNk : ∀ W, Boxes w W [(w.heap.size + 1 + 1, 24, q0, q1), (w.heap.size + 1, 24, 0, 0), (w.heap.size, 24, ah, al)] → wr.heap.size ≤ W.heap.size → (Boxes w W [(w.heap.size + 1 + 1, 24, q0, q1), (w.heap.size + 1, 24, 0, 0), (w.heap.size, 24, ah, al)] ∧ wr.heap.size ≤ W.heap.size ∧ (W.cell? ⟨w.heap.size + 1 + 1, 0, none⟩ = some (.int .u64 q0) ∧ W.cell? ⟨w.heap.size + 1 + 1, 1, none⟩ = some (.int .u64 q1)) ∧ (W.cell? ⟨w.heap.size + 1, 0, none⟩ = some (.int .u64 0) ∧ W.cell? ⟨w.heap.size + 1, 1, none⟩ = some (.int .u64 0)) ∧ (W.cell? ⟨w.heap.size, 0, none⟩ = some (.int .u64 ah) ∧ W.cell? ⟨w.heap.size, 1, none⟩ = some (.int .u64 al))) := fun W h hs => ⟨h, hs, two_cells (h.all (w.heap.size + 1 + 1, 24, q0, q1) (by simp)), two_cells (h.all (w.heap.size + 1, 24, 0, 0) (by simp)), two_cells (h.all (w.heap.size, 24, ah, al) (by simp))⟩
        have HN : Hid (∀ W V, (Boxes w W [(w.heap.size + 1 + 1, 24, q0, q1), (w.heap.size + 1, 24, 0, 0), (w.heap.size, 24, ah, al)] ∧ wr.heap.size ≤ W.heap.size ∧ (W.cell? ⟨w.heap.size + 1 + 1, 0, none⟩ = some (.int .u64 q0) ∧ W.cell? ⟨w.heap.size + 1 + 1, 1, none⟩ = some (.int .u64 q1)) ∧ (W.cell? ⟨w.heap.size + 1, 0, none⟩ = some (.int .u64 0) ∧ W.cell? ⟨w.heap.size + 1, 1, none⟩ = some (.int .u64 0)) ∧ (W.cell? ⟨w.heap.size, 0, none⟩ = some (.int .u64 ah) ∧ W.cell? ⟨w.heap.size, 1, none⟩ = some (.int .u64 al))) → Below W.heap.size W V → (Boxes w V [(w.heap.size + 1 + 1, 24, q0, q1), (w.heap.size + 1, 24, 0, 0), (w.heap.size, 24, ah, al)] ∧ wr.heap.size ≤ V.heap.size ∧ (V.cell? ⟨w.heap.size + 1 + 1, 0, none⟩ = some (.int .u64 q0) ∧ V.cell? ⟨w.heap.size + 1 + 1, 1, none⟩ = some (.int .u64 q1)) ∧ (V.cell? ⟨w.heap.size + 1, 0, none⟩ = some (.int .u64 0) ∧ V.cell? ⟨w.heap.size + 1, 1, none⟩ = some (.int .u64 0)) ∧ (V.cell? ⟨w.heap.size, 0, none⟩ = some (.int .u64 ah) ∧ V.cell? ⟨w.heap.size, 1, none⟩ = some (.int .u64 al)))) := fun W V h hb => HNk _ (h.1.next hb) (Nat.le_trans h.2.1 hb.size)
        have HS0 : Hid (Boxes w wr.drew [(w.heap.size + 1 + 1, 24, q0, q1), (w.heap.size + 1, 24, 0, 0), (w.heap.size, 24, ah, al)] ∧ wr.heap.size ≤ wr.drew.heap.size ∧ (wr.drew.cell? ⟨w.heap.size + 1 + 1, 0, none⟩ = some (.int .u64 q0) ∧ wr.drew.cell? ⟨w.heap.size + 1 + 1, 1, none⟩ = some (.int .u64 q1)) ∧ (wr.drew.cell? ⟨w.heap.size + 1, 0, none⟩ = some (.int .u64 0) ∧ wr.drew.cell? ⟨w.heap.size + 1, 1, none⟩ = some (.int .u64 0)) ∧ (wr.drew.cell? ⟨w.heap.size, 0, none⟩ = some (.int .u64 ah) ∧ wr.drew.cell? ⟨w.heap.size, 1, none⟩ = some (.int .u64 al))) := HNk _ (HX1.out.next ⟨rfl, rfl, rfl, Nat.le_refl _, fun _ _ => rfl⟩) (Nat.le_refl _)
        have HR : Hid (∀ W g cs, (Boxes w W [(w.heap.size + 1 + 1, 24, q0, q1), (w.heap.size + 1, 24, 0, 0), (w.heap.size, 24, ah, al)] ∧ wr.heap.size ≤ W.heap.size ∧ (W.cell? ⟨w.heap.size + 1 + 1, 0, none⟩ = some (.int .u64 q0) ∧ W.cell? ⟨w.heap.size + 1 + 1, 1, none⟩ = some (.int .u64 q1)) ∧ (W.cell? ⟨w.heap.size + 1, 0, none⟩ = some (.int .u64 0) ∧ W.cell? ⟨w.heap.size + 1, 1, none⟩ = some (.int .u64 0)) ∧ (W.cell? ⟨w.heap.size, 0, none⟩ = some (.int .u64 ah) ∧ W.cell? ⟨w.heap.size, 1, none⟩ = some (.int .u64 al))) → wr.heap.size ≤ g → (Boxes w (W.setRow g cs) [(w.heap.size + 1 + 1, 24, q0, q1), (w.heap.size + 1, 24, 0, 0), (w.heap.size, 24, ah, al)] ∧ wr.heap.size ≤ (W.setRow g cs).heap.size ∧ ((W.setRow g cs).cell? ⟨w.heap.size + 1 + 1, 0, none⟩ = some (.int .u64 q0) ∧ (W.setRow g cs).cell? ⟨w.heap.size + 1 + 1, 1, none⟩ = some (.int .u64 q1)) ∧ ((W.setRow g cs).cell? ⟨w.heap.size + 1, 0, none⟩ = some (.int .u64 0) ∧ (W.setRow g cs).cell? ⟨w.heap.size + 1, 1, none⟩ = some (.int .u64 0)) ∧ ((W.setRow g cs).cell? ⟨w.heap.size, 0, none⟩ = some (.int .u64 ah) ∧ (W.setRow g cs).cell? ⟨w.heap.size, 1, none⟩ = some (.int .u64 al)))) := fun W g cs h hg => HNk _ (h.1.row g cs (Nat.le_trans HX1.out.below.size hg) (fun x hx e => by have := HX1.out.lt x hx; omega)) (by rw [setRow_size]; exact h.2.1)
        clear HNk
        refine wp_region_noPanic ?_
        refine wp_region_held_drew (S := fun W => Boxes w W [(w.heap.size + 1 + 1, 24, q0, q1), (w.heap.size + 1, 24, 0, 0), (w.heap.size, 24, ah, al)] ∧ wr.heap.size ≤ W.heap.size ∧ (W.cell? ⟨w.heap.size + 1 + 1, 0, none⟩ = some (.int .u64 q0) ∧ W.cell? ⟨w.heap.size + 1 + 1, 1, none⟩ = some (.int .u64 q1)) ∧ (W.cell? ⟨w.heap.size + 1, 0, none⟩ = some (.int .u64 0) ∧ W.cell? ⟨w.heap.size + 1, 1, none⟩ = some (.int .u64 0)) ∧ (W.cell? ⟨w.heap.size, 0, none⟩ = some (.int .u64 ah) ∧ W.cell? ⟨w.heap.size, 1, none⟩ = some (.int .u64 al))) (by kernel_rfl) ?_ (fun hHeld => ?_)
        · exact HS0.out
        refine wpAnyH_take (i := 0) (oi := { dst := some 28, op := Op.load 24 (Operand.tmp 6), type := 24, pos := "num.go:78", after := #[], guard := none }) (v := ?_) rfl (by kernel_rfl) (by kernel_rfl) (by kernel_rfl) (fun _ _ _ h => h) (Or.inl ⟨by rfl, ?_⟩) (by assumption) ?_
        rotate_left
        · (intro w9 hS9; (try dsimp only at hS9); go_simp); all_goals (with_reducible rfl)
        (try simp only [Act.put, List.setIfInBounds_toArray, List.set_cons_zero, List.set_cons_succ])
        refine wpAnyH_take (i := 1) (oi := { dst := some 29, op := Op.move (Operand.tmp 1), type := 5, pos := "num.go:78", after := #[], guard := none }) (v := ?_) rfl (by kernel_rfl) (by kernel_rfl) (by kernel_rfl) (fun _ _ _ h => h) (Or.inl ⟨by rfl, ?_⟩) (by assumption) ?_
        rotate_left
        · (intro w9 hS9; (try dsimp only at hS9); go_simp); all_goals (with_reducible rfl)
        (try simp only [Act.put, List.setIfInBounds_toArray, List.set_cons_zero, List.set_cons_succ])
        refine wpAnyH_take (i := 2) (oi := { dst := some 30, op := Op.convert 5 22 (Operand.tmp 29), type := 22, pos := "num.go:78", after := #[{ on := 1, ground := Ground.data }], guard := none }) (v := ?_) rfl (by kernel_rfl) (by kernel_rfl) (by kernel_rfl) (fun _ _ _ h => h) (Or.inl ⟨by rfl, ?_⟩) (by assumption) ?_
        rotate_left
        · (intro w9 hS9; (try dsimp only at hS9); go_simp); all_goals (with_reducible rfl)
        (try simp only [Act.put, List.setIfInBounds_toArray, List.set_cons_zero, List.set_cons_succ])
        refine wpAnyH_ready (rs := [3, 8]) (by kernel_rfl) (by simp) ?_
        refine AllReadyH.cons (o := { dst := some 31, op := Op.call { callee := Callee.value (Operand.func 27), args := #[Operand.tmp 30], argTypes := #[22] }, type := 24, pos := "num.go:78", after := #[{ on := 2, ground := Ground.data }], guard := none }) rfl (fun K hK => ?_) ?_
        · go_simp
          with_reducible refine (C2.out _).mono ?_
          rintro e w1 ⟨rfl, hb1⟩
          have hS1 := HN.out _ _ (by assumption) hb1
          have hsz := hb1.size
          (try simp only [size_alloc, heap_drew] at hsz)
          (try go_wp2_with fail)
          refine hK.out _ _ ?_ (fun hHeld => ?_)
          · (first | exact hS1 | assumption | exact HN.out _ _ (by assumption) (below_alloc (Below.refl _ _) _) | exact HR.out _ _ _ (by assumption) (by first | omega | (simp; try omega)))
          clear hK K
          (try simp only [Act.put, List.setIfInBounds_toArray, List.set_cons_zero, List.set_cons_succ])
          refine wpAnyH_ready (rs := [4, 8]) (by kernel_rfl) (by simp) ?_
          refine AllReadyH.cons (o := { dst := some 32, op := Op.call { callee := Callee.value (Operand.func 19), args := #[Operand.tmp 28, Operand.tmp 31], argTypes := #[24, 24] }, type := 25, pos := "num.go:78", after := #[{ on := 0, ground := Ground.data }, { on := 3, ground := Ground.data }, { on := 3, ground := Ground.chain }], guard := none }) rfl (fun K hK => ?_) ?_
          · go_simp
            with_reducible refine (C3.out _).mono ?_
            rintro e w1 ⟨rfl, hb1⟩
            have hS1 := HN.out _ _ (by assumption) hb1
            have hsz := hb1.size
            (try simp only [size_alloc, heap_drew] at hsz)
            (try go_wp2_with fail)
            refine hK.out _ _ ?_ (fun hHeld => ?_)
            · (first | exact hS1 | assumption | exact HN.out _ _ (by assumption) (below_alloc (Below.refl _ _) _) | exact HR.out _ _ _ (by assumption) (by first | omega | (simp; try omega)))
            clear hK K
            (try simp only [Act.put, List.setIfInBounds_toArray, List.set_cons_zero, List.set_cons_succ])
            refine wpAnyH_take (i := 5) (oi := { dst := some 27, op := Op.move (Operand.tmp 32), type := 25, pos := "num.go:78", after := #[{ on := 4, ground := Ground.data }], guard := none }) (v := ?_) rfl (by kernel_rfl) (by kernel_rfl) (by kernel_rfl) (fun _ _ _ h => h) (Or.inl ⟨by rfl, ?_⟩) (by assumption) ?_
            rotate_left
            · (intro w9 hS9; (try dsimp only at hS9); go_simp); all_goals (with_reducible rfl)
            (try simp only [Act.put, List.setIfInBounds_toArray, List.set_cons_zero, List.set_cons_succ])
            refine wpAnyH_take (i := 6) (oi := { dst := some 33, op := Op.extract (Operand.tmp 27) 0, type := 24, pos := "num.go:78", after := #[{ on := 5, ground := Ground.data }], guard := none }) (v := ?_) rfl (by kernel_rfl) (by kernel_rfl) (by kernel_rfl) (fun _ _ _ h => h) (Or.inl ⟨by rfl, ?_⟩) (by assumption) ?_
            rotate_left
            · (intro w9 hS9; (try dsimp only at hS9); go_simp); all_goals (with_reducible rfl)
            (try simp only [Act.put, List.setIfInBounds_toArray, List.set_cons_zero, List.set_cons_succ])
            refine wpAnyH_take (i := 7) (oi := { dst := some 34, op := Op.extract (Operand.tmp 27) 1, type := 4, pos := "num.go:78", after := #[{ on := 5, ground := Ground.data }, { on := 9, ground := Ground.gcOnly Departure.lateStores }], guard := none }) (v := ?_) rfl (by kernel_rfl) (by kernel_rfl) (by kernel_rfl) (fun _ _ _ h => h) (Or.inl ⟨by rfl, ?_⟩) (by assumption) ?_
            rotate_left
            · (intro w9 hS9; (try dsimp only at hS9); go_simp); all_goals (with_reducible rfl)
            (try simp only [Act.put, List.setIfInBounds_toArray, List.set_cons_zero, List.set_cons_succ])
            refine wpAnyH_ready (rs := [8]) (by kernel_rfl) (by simp) ?_
            refine AllReadyH.cons (o := { dst := some 10, op := Op.alloc 24, type := 0, pos := "num.go:78", after := #[], guard := none }) rfl (fun K hK => ?_) ?_
            · go_simp
              skip
              (try go_wp2_with fail)
              refine hK.out _ _ ?_ (fun hHeld => ?_)
              · (first | exact hS1 | assumption | exact HN.out _ _ (by assumption) (below_alloc (Below.refl _ _) _) | exact HR.out _ _ _ (by assumption) (by first | omega | (simp; try omega)))
              clear hK K
              (try simp only [Act.put, List.setIfInBounds_toArray, List.set_cons_zero, List.set_cons_succ])
              refine wpAnyH_ready (rs := [9]) (by kernel_rfl) (by simp) ?_
              refine AllReadyH.cons (o := { dst := none, op := Op.store 24 (Operand.tmp 10) (Operand.tmp 33), type := 0, pos := "num.go:78", after := #[{ on := 8, ground := Ground.data }, { on := 6, ground := Ground.data }, { on := 4, ground := Ground.chain }, { on := 0, ground := Ground.phase }, { on := 1, ground := Ground.phase }, { on := 2, ground := Ground.phase }, { on := 3, ground := Ground.phase }, { on := 4, ground := Ground.phase }, { on := 5, ground := Ground.phase }, { on := 6, ground := Ground.phase }, { on := 7, ground := Ground.textOnly Departure.lateStores }, { on := 8, ground := Ground.phase }], guard := none }) rfl (fun K hK => ?_) ?_
              · rw [if_pos (by rfl)]
                refine wp_store_row 24 _ _ rfl _ #[.int .u64 rh, .int .u64 rl] rfl rfl 24 #[.int .u64 0, .int .u64 0] ?_ size24 rfl (one2 _ _) ?_
                · repeat' first | with_reducible exact heap_alloc_new _ _ | with_reducible exact heap_alloc2_new _ _ _ | with_reducible refine old_drew ?_ | with_reducible refine old_alloc _ ?_ | with_reducible refine old_row _ (by simp; try omega) ?_ | with_reducible refine old_below (by assumption) ?_
                (try go_wp2_with fail)
                refine hK.out _ _ ?_ (fun hHeld => ?_)
                · (first | exact hS1 | assumption | exact HN.out _ _ (by assumption) (below_alloc (Below.refl _ _) _) | exact HR.out _ _ _ (by assumption) (by first | omega | (simp; try omega)))
                clear hK K
                (try simp only [Act.put, List.setIfInBounds_toArray, List.set_cons_zero, List.set_cons_succ])
                refine wpAnyH_take (i := 10) (oi := { dst := some 11, op := Op.assign (Operand.tmp 34), type := 4, pos := "num.go:78", after := #[{ on := 7, ground := Ground.data }, { on := 9, ground := Ground.chain }, { on := 0, ground := Ground.phase }, { on := 1, ground := Ground.phase }, { on := 2, ground := Ground.phase }, { on := 3, ground := Ground.phase }, { on := 4, ground := Ground.phase }, { on := 5, ground := Ground.phase }, { on := 6, ground := Ground.phase }, { on := 7, ground := Ground.phase }, { on := 8, ground := Ground.phase }, { on := 9, ground := Ground.phase }], guard := none }) (v := ?_) rfl (by kernel_rfl) (by kernel_rfl) (by kernel_rfl) (fun _ _ _ h => h) (Or.inl ⟨by rfl, ?_⟩) (by assumption) ?_
                rotate_left
                · (intro w9 hS9; (try dsimp only at hS9); go_simp); all_goals (with_reducible rfl)
                (try simp only [Act.put, List.setIfInBounds_toArray, List.set_cons_zero, List.set_cons_succ])
                refine wpAnyH_done (by kernel_rfl) (NoPanic.normal ?_) _
                go_wp2_with fail
                go_meet
                case rel =>
                  refine ⟨_, rfl, rfl, Boxes.cons (And.left (by assumption)) ?_⟩
                  refine setRow_heap _ _ #[.int .u64 0, .int .u64 0] _ 24 (0, 0) ?_
                  repeat' first | with_reducible exact heap_alloc_new _ _ | with_reducible exact heap_alloc2_new _ _ _ | with_reducible refine old_drew ?_ | with_reducible refine old_alloc _ ?_ | with_reducible refine old_row _ (by simp; try omega) ?_ | with_reducible refine old_below (by assumption) ?_
              exact AllReadyH.nil
            exact AllReadyH.nil
          refine AllReadyH.cons (o := { dst := some 10, op := Op.alloc 24, type := 0, pos := "num.go:78", after := #[], guard := none }) rfl (fun K hK => ?_) ?_
          · go_simp
            skip
            (try go_wp2_with fail)
            refine hK.out _ _ ?_ (fun hHeld => ?_)
            · (first | exact hS1 | assumption | exact HN.out _ _ (by assumption) (below_alloc (Below.refl _ _) _) | exact HR.out _ _ _ (by assumption) (by first | omega | (simp; try omega)))
            clear hK K
            (try simp only [Act.put, List.setIfInBounds_toArray, List.set_cons_zero, List.set_cons_succ])
            refine wpAnyH_ready (rs := [4]) (by kernel_rfl) (by simp) ?_
            refine AllReadyH.cons (o := { dst := some 32, op := Op.call { callee := Callee.value (Operand.func 19), args := #[Operand.tmp 28, Operand.tmp 31], argTypes := #[24, 24] }, type := 25, pos := "num.go:78", after := #[{ on := 0, ground := Ground.data }, { on := 3, ground := Ground.data }, { on := 3, ground := Ground.chain }], guard := none }) rfl (fun K hK => ?_) ?_
            · go_simp
              with_reducible refine (C3.out _).mono ?_
              rintro e w1 ⟨rfl, hb1⟩
              have hS1 := HN.out _ _ (by assumption) hb1
              have hsz := hb1.size
              (try simp only [size_alloc, heap_drew] at hsz)
              (try go_wp2_with fail)
              refine hK.out _ _ ?_ (fun hHeld => ?_)
              · (first | exact hS1 | assumption | exact HN.out _ _ (by assumption) (below_alloc (Below.refl _ _) _) | exact HR.out _ _ _ (by assumption) (by first | omega | (simp; try omega)))
              clear hK K
              (try simp only [Act.put, List.setIfInBounds_toArray, List.set_cons_zero, List.set_cons_succ])
              refine wpAnyH_take (i := 5) (oi := { dst := some 27, op := Op.move (Operand.tmp 32), type := 25, pos := "num.go:78", after := #[{ on := 4, ground := Ground.data }], guard := none }) (v := ?_) rfl (by kernel_rfl) (by kernel_rfl) (by kernel_rfl) (fun _ _ _ h => h) (Or.inl ⟨by rfl, ?_⟩) (by assumption) ?_
              rotate_left
              · (intro w9 hS9; (try dsimp only at hS9); go_simp); all_goals (with_reducible rfl)
              (try simp only [Act.put, List.setIfInBounds_toArray, List.set_cons_zero, List.set_cons_succ])
              refine wpAnyH_take (i := 6) (oi := { dst := some 33, op := Op.extract (Operand.tmp 27) 0, type := 24, pos := "num.go:78", after := #[{ on := 5, ground := Ground.data }], guard := none }) (v := ?_) rfl (by kernel_rfl) (by kernel_rfl) (by kernel_rfl) (fun _ _ _ h => h) (Or.inl ⟨by rfl, ?_⟩) (by assumption) ?_
              rotate_left
              · (intro w9 hS9; (try dsimp only at hS9); go_simp); all_goals (with_reducible rfl)
              (try simp only [Act.put, List.setIfInBounds_toArray, List.set_cons_zero, List.set_cons_succ])
              refine wpAnyH_take (i := 7) (oi := { dst := some 34, op := Op.extract (Operand.tmp 27) 1, type := 4, pos := "num.go:78", after := #[{ on := 5, ground := Ground.data }, { on := 9, ground := Ground.gcOnly Departure.lateStores }], guard := none }) (v := ?_) rfl (by kernel_rfl) (by kernel_rfl) (by kernel_rfl) (fun _ _ _ h => h) (Or.inl ⟨by rfl, ?_⟩) (by assumption) ?_
              rotate_left
              · (intro w9 hS9; (try dsimp only at hS9); go_simp); all_goals (with_reducible rfl)
              (try simp only [Act.put, List.setIfInBounds_toArray, List.set_cons_zero, List.set_cons_succ])
              refine wpAnyH_ready (rs := [9]) (by kernel_rfl) (by simp) ?_
              refine AllReadyH.cons (o := { dst := none, op := Op.store 24 (Operand.tmp 10) (Operand.tmp 33), type := 0, pos := "num.go:78", after := #[{ on := 8, ground := Ground.data }, { on := 6, ground := Ground.data }, { on := 4, ground := Ground.chain }, { on := 0, ground := Ground.phase }, { on := 1, ground := Ground.phase }, { on := 2, ground := Ground.phase }, { on := 3, ground := Ground.phase }, { on := 4, ground := Ground.phase }, { on := 5, ground := Ground.phase }, { on := 6, ground := Ground.phase }, { on := 7, ground := Ground.textOnly Departure.lateStores }, { on := 8, ground := Ground.phase }], guard := none }) rfl (fun K hK => ?_) ?_
              · rw [if_pos (by rfl)]
                refine wp_store_row 24 _ _ rfl _ #[.int .u64 rh, .int .u64 rl] rfl rfl 24 #[.int .u64 0, .int .u64 0] ?_ size24 rfl (one2 _ _) ?_
                · repeat' first | with_reducible exact heap_alloc_new _ _ | with_reducible exact heap_alloc2_new _ _ _ | with_reducible refine old_drew ?_ | with_reducible refine old_alloc _ ?_ | with_reducible refine old_row _ (by simp; try omega) ?_ | with_reducible refine old_below (by assumption) ?_
                (try go_wp2_with fail)
                refine hK.out _ _ ?_ (fun hHeld => ?_)
                · (first | exact hS1 | assumption | exact HN.out _ _ (by assumption) (below_alloc (Below.refl _ _) _) | exact HR.out _ _ _ (by assumption) (by first | omega | (simp; try omega)))
                clear hK K
                (try simp only [Act.put, List.setIfInBounds_toArray, List.set_cons_zero, List.set_cons_succ])
                refine wpAnyH_take (i := 10) (oi := { dst := some 11, op := Op.assign (Operand.tmp 34), type := 4, pos := "num.go:78", after := #[{ on := 7, ground := Ground.data }, { on := 9, ground := Ground.chain }, { on := 0, ground := Ground.phase }, { on := 1, ground := Ground.phase }, { on := 2, ground := Ground.phase }, { on := 3, ground := Ground.phase }, { on := 4, ground := Ground.phase }, { on := 5, ground := Ground.phase }, { on := 6, ground := Ground.phase }, { on := 7, ground := Ground.phase }, { on := 8, ground := Ground.phase }, { on := 9, ground := Ground.phase }], guard := none }) (v := ?_) rfl (by kernel_rfl) (by kernel_rfl) (by kernel_rfl) (fun _ _ _ h => h) (Or.inl ⟨by rfl, ?_⟩) (by assumption) ?_
                rotate_left
                · (intro w9 hS9; (try dsimp only at hS9); go_simp); all_goals (with_reducible rfl)
                (try simp only [Act.put, List.setIfInBounds_toArray, List.set_cons_zero, List.set_cons_succ])
                refine wpAnyH_done (by kernel_rfl) (NoPanic.normal ?_) _
                go_wp2_with fail
                go_meet
                case rel =>
                  refine ⟨_, rfl, rfl, Boxes.cons (And.left (by assumption)) ?_⟩
                  refine setRow_heap _ _ #[.int .u64 0, .int .u64 0] _ 24 (0, 0) ?_
                  repeat' first | with_reducible exact heap_alloc_new _ _ | with_reducible exact heap_alloc2_new _ _ _ | with_reducible refine old_drew ?_ | with_reducible refine old_alloc _ ?_ | with_reducible refine old_row _ (by simp; try omega) ?_ | with_reducible refine old_below (by assumption) ?_
              exact AllReadyH.nil
            exact AllReadyH.nil
          exact AllReadyH.nil
        refine AllReadyH.cons (o := { dst := some 10, op := Op.alloc 24, type := 0, pos := "num.go:78", after := #[], guard := none }) rfl (fun K hK => ?_) ?_
        · go_simp
          skip
          (try go_wp2_with fail)
          refine hK.out _ _ ?_ (fun hHeld => ?_)
          · (first | exact hS1 | assumption | exact HN.out _ _ (by assumption) (below_alloc (Below.refl _ _) _) | exact HR.out _ _ _ (by assumption) (by first | omega | (simp; try omega)))
          clear hK K
          (try simp only [Act.put, List.setIfInBounds_toArray, List.set_cons_zero, List.set_cons_succ])
          refine wpAnyH_ready (rs := [3]) (by kernel_rfl) (by simp) ?_
          refine AllReadyH.cons (o := { dst := some 31, op := Op.call { callee := Callee.value (Operand.func 27), args := #[Operand.tmp 30], argTypes := #[22] }, type := 24, pos := "num.go:78", after := #[{ on := 2, ground := Ground.data }], guard := none }) rfl (fun K hK => ?_) ?_
          · go_simp
            with_reducible refine (C2.out _).mono ?_
            rintro e w1 ⟨rfl, hb1⟩
            have hS1 := HN.out _ _ (by assumption) hb1
            have hsz := hb1.size
            (try simp only [size_alloc, heap_drew] at hsz)
            (try go_wp2_with fail)
            refine hK.out _ _ ?_ (fun hHeld => ?_)
            · (first | exact hS1 | assumption | exact HN.out _ _ (by assumption) (below_alloc (Below.refl _ _) _) | exact HR.out _ _ _ (by assumption) (by first | omega | (simp; try omega)))
            clear hK K
            (try simp only [Act.put, List.setIfInBounds_toArray, List.set_cons_zero, List.set_cons_succ])
            refine wpAnyH_ready (rs := [4]) (by kernel_rfl) (by simp) ?_
            refine AllReadyH.cons (o := { dst := some 32, op := Op.call { callee := Callee.value (Operand.func 19), args := #[Operand.tmp 28, Operand.tmp 31], argTypes := #[24, 24] }, type := 25, pos := "num.go:78", after := #[{ on := 0, ground := Ground.data }, { on := 3, ground := Ground.data }, { on := 3, ground := Ground.chain }], guard := none }) rfl (fun K hK => ?_) ?_
            · go_simp
              with_reducible refine (C3.out _).mono ?_
              rintro e w1 ⟨rfl, hb1⟩
              have hS1 := HN.out _ _ (by assumption) hb1
              have hsz := hb1.size
              (try simp only [size_alloc, heap_drew] at hsz)
              (try go_wp2_with fail)
              refine hK.out _ _ ?_ (fun hHeld => ?_)
              · (first | exact hS1 | assumption | exact HN.out _ _ (by assumption) (below_alloc (Below.refl _ _) _) | exact HR.out _ _ _ (by assumption) (by first | omega | (simp; try omega)))
              clear hK K
              (try simp only [Act.put, List.setIfInBounds_toArray, List.set_cons_zero, List.set_cons_succ])
              refine wpAnyH_take (i := 5) (oi := { dst := some 27, op := Op.move (Operand.tmp 32), type := 25, pos := "num.go:78", after := #[{ on := 4, ground := Ground.data }], guard := none }) (v := ?_) rfl (by kernel_rfl) (by kernel_rfl) (by kernel_rfl) (fun _ _ _ h => h) (Or.inl ⟨by rfl, ?_⟩) (by assumption) ?_
              rotate_left
              · (intro w9 hS9; (try dsimp only at hS9); go_simp); all_goals (with_reducible rfl)
              (try simp only [Act.put, List.setIfInBounds_toArray, List.set_cons_zero, List.set_cons_succ])
              refine wpAnyH_take (i := 6) (oi := { dst := some 33, op := Op.extract (Operand.tmp 27) 0, type := 24, pos := "num.go:78", after := #[{ on := 5, ground := Ground.data }], guard := none }) (v := ?_) rfl (by kernel_rfl) (by kernel_rfl) (by kernel_rfl) (fun _ _ _ h => h) (Or.inl ⟨by rfl, ?_⟩) (by assumption) ?_
              rotate_left
              · (intro w9 hS9; (try dsimp only at hS9); go_simp); all_goals (with_reducible rfl)
              (try simp only [Act.put, List.setIfInBounds_toArray, List.set_cons_zero, List.set_cons_succ])
              refine wpAnyH_take (i := 7) (oi := { dst := some 34, op := Op.extract (Operand.tmp 27) 1, type := 4, pos := "num.go:78", after := #[{ on := 5, ground := Ground.data }, { on := 9, ground := Ground.gcOnly Departure.lateStores }], guard := none }) (v := ?_) rfl (by kernel_rfl) (by kernel_rfl) (by kernel_rfl) (fun _ _ _ h => h) (Or.inl ⟨by rfl, ?_⟩) (by assumption) ?_
              rotate_left
              · (intro w9 hS9; (try dsimp only at hS9); go_simp); all_goals (with_reducible rfl)
              (try simp only [Act.put, List.setIfInBounds_toArray, List.set_cons_zero, List.set_cons_succ])
              refine wpAnyH_ready (rs := [9]) (by kernel_rfl) (by simp) ?_
              refine AllReadyH.cons (o := { dst := none, op := Op.store 24 (Operand.tmp 10) (Operand.tmp 33), type := 0, pos := "num.go:78", after := #[{ on := 8, ground := Ground.data }, { on := 6, ground := Ground.data }, { on := 4, ground := Ground.chain }, { on := 0, ground := Ground.phase }, { on := 1, ground := Ground.phase }, { on := 2, ground := Ground.phase }, { on := 3, ground := Ground.phase }, { on := 4, ground := Ground.phase }, { on := 5, ground := Ground.phase }, { on := 6, ground := Ground.phase }, { on := 7, ground := Ground.textOnly Departure.lateStores }, { on := 8, ground := Ground.phase }], guard := none }) rfl (fun K hK => ?_) ?_
              · rw [if_pos (by rfl)]
                refine wp_store_row 24 _ _ rfl _ #[.int .u64 rh, .int .u64 rl] rfl rfl 24 #[.int .u64 0, .int .u64 0] ?_ size24 rfl (one2 _ _) ?_
                · repeat' first | with_reducible exact heap_alloc_new _ _ | with_reducible exact heap_alloc2_new _ _ _ | with_reducible refine old_drew ?_ | with_reducible refine old_alloc _ ?_ | with_reducible refine old_row _ (by simp; try omega) ?_ | with_reducible refine old_below (by assumption) ?_
                (try go_wp2_with fail)
                refine hK.out _ _ ?_ (fun hHeld => ?_)
                · (first | exact hS1 | assumption | exact HN.out _ _ (by assumption) (below_alloc (Below.refl _ _) _) | exact HR.out _ _ _ (by assumption) (by first | omega | (simp; try omega)))
                clear hK K
                (try simp only [Act.put, List.setIfInBounds_toArray, List.set_cons_zero, List.set_cons_succ])
                refine wpAnyH_take (i := 10) (oi := { dst := some 11, op := Op.assign (Operand.tmp 34), type := 4, pos := "num.go:78", after := #[{ on := 7, ground := Ground.data }, { on := 9, ground := Ground.chain }, { on := 0, ground := Ground.phase }, { on := 1, ground := Ground.phase }, { on := 2, ground := Ground.phase }, { on := 3, ground := Ground.phase }, { on := 4, ground := Ground.phase }, { on := 5, ground := Ground.phase }, { on := 6, ground := Ground.phase }, { on := 7, ground := Ground.phase }, { on := 8, ground := Ground.phase }, { on := 9, ground := Ground.phase }], guard := none }) (v := ?_) rfl (by kernel_rfl) (by kernel_rfl) (by kernel_rfl) (fun _ _ _ h => h) (Or.inl ⟨by rfl, ?_⟩) (by assumption) ?_
                rotate_left
                · (intro w9 hS9; (try dsimp only at hS9); go_simp); all_goals (with_reducible rfl)
                (try simp only [Act.put, List.setIfInBounds_toArray, List.set_cons_zero, List.set_cons_succ])
                refine wpAnyH_done (by kernel_rfl) (NoPanic.normal ?_) _
                go_wp2_with fail
                go_meet
                case rel =>
                  refine ⟨_, rfl, rfl, Boxes.cons (And.left (by assumption)) ?_⟩
                  refine setRow_heap _ _ #[.int .u64 0, .int .u64 0] _ 24 (0, 0) ?_
                  repeat' first | with_reducible exact heap_alloc_new _ _ | with_reducible exact heap_alloc2_new _ _ _ | with_reducible refine old_drew ?_ | with_reducible refine old_alloc _ ?_ | with_reducible refine old_row _ (by simp; try omega) ?_ | with_reducible refine old_below (by assumption) ?_
              exact AllReadyH.nil
            exact AllReadyH.nil
          exact AllReadyH.nil
        exact AllReadyH.nil
      case rest =>
        obtain ⟨b10, rfl, rfl, hX⟩ := hcut
        have HX2 := Lib.hid hX
        clear hX
        generalize wc = w5 at *
        obtain ⟨⟨r0, s0⟩, -, -⟩ := HX2.out.at b10 24 rh rl (by simp)
        cases c
        all_goals (
          go_wp2_with (refine wpList_store_row rfl 24 _ _ rfl (w.heap.size + 1) #[.int .u64 rh, .int .u64 rl] rfl rfl 24 #[.int .u64 0, .int .u64 0] (HX2.out.all (w.heap.size + 1, 24, 0, 0) (by simp)) size24 rfl (one2 _ _) ?_)
          obtain ⟨p0, p1⟩ := two_cells (setRow_heap _ _ #[.int .u64 0, .int .u64 0] #[.int .u64 rh, .int .u64 rl] 24 (0, 0) (HX2.out.all (w.heap.size + 1, 24, 0, 0) (by simp)))
          have hB2 := below_setRow HX2.out.below (w.heap.size + 1) #[.int .u64 rh, .int .u64 rl] (by omega)
          generalize w5.setRow (w.heap.size + 1) #[.int .u64 rh, .int .u64 rl] = W1 at *)
        · exact bodyPost_ret (v := .tuple #[wv rh rl, .bool o2]) (by simp [results, Try.results80, go_sem, p0, p1]) rfl ⟨by rw [HC.out]; rfl, hB2⟩
        · exact bodyPost_ret (v := .tuple #[wv rh rl, .bool true]) (by simp [results, Try.results80, go_sem, p0, p1]) rfl ⟨by rw [HC.out]; rfl, hB2⟩

/-- Ten times a number, and a digit. -/
theorem more_any (a d : Nat) (ha : a < MM) (hd : d < 256) (w : World) :
    Calls Try.prog 80 #[W a, .int .u8 d] w fun e w' => e = .returned (.tuple #[W ((10 * a + d) % MM), .bool (decide (MM ≤ 10 * a + d))]) ∧ Below w.heap.size w w' := by
  have hM : 0 < MM := by decide
  have hd2 : d < M := by rw [M_eq]; omega
  have hMM : M ≤ MM := by decide
  have h := more_walk (a / M) (a % M) d (d / M) (d % M) ((10 * a + d) % MM / M) ((10 * a + d) % MM % M) (fun k => k * a % MM / M) (fun k => k * a % MM % M) (fun k => decide (MM ≤ k * a)) (fun k => decide (MM ≤ k * a % MM + a)) (decide (MM ≤ 10 * a % MM + d))
    (by simp) (by simp) (by simp [MM_eq]) (fun k => ?_) (fun k hk w => ?_) (fun w => of_any d hd2 w) (fun w => ?_) (wrap_in d (by omega)) w
  · have e : (decide (MM ≤ 10 * a) || decide (MM ≤ 10 * a % MM + d)) = decide (MM ≤ 10 * a + d) := by
      by_cases c : MM ≤ 10 * a
      · rw [decide_eq_true c, decide_eq_true (show MM ≤ 10 * a + d by omega)]; rfl
      · rw [decide_eq_false c, Nat.mod_eq_of_lt (by omega)]; rfl
    rw [e] at h
    exact h
  · rw [Nat.add_mul, Nat.one_mul]
    by_cases c : MM ≤ k * a
    · rw [decide_eq_true c, decide_eq_true (show MM ≤ k * a + a by omega)]; rfl
    · rw [decide_eq_false c, Nat.mod_eq_of_lt (by omega)]; rfl
  · have h := add_any (k * a % MM) a (Nat.mod_lt _ hM) ha w
    rw [Nat.mod_add_mod, ← Nat.succ_mul] at h
    exact h
  · have h := add_any (10 * a % MM) d (Nat.mod_lt _ hM) (by omega) w
    rw [Nat.mod_add_mod] at h
    exact h

end Go.Proofs.Ytcaeaepnobbjlaa

