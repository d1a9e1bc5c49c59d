import Derived.Test.YtcaeaepnobbjlaaR
namespace Go.Proofs.Ytcaeaepnobbjlaa
set_option linter.unusedVariables false
set_option linter.unusedSimpArgs false
open Go.RowKit

set_option maxRecDepth 100000 in
set_option maxHeartbeats 8000000 in
theorem tops_walk (ah al bh bl k th tl uh ul xh xl k1 ph pl yh yl qh ql zh zl : Nat) (n m : Int) (d e1 e2 f1 f2 q1 q2 : Bool)
    (c1 : ∀ w, Calls Try.prog 42 #[wv ah al, wv bh bl] w fun e w' => e = .returned (.int .i64 k) ∧ Below w.heap.size w w')
    (c2 : ∀ w, Calls Try.prog 39 #[wv ah al, .int .i64 k] w fun e w' => e = .returned (wv th tl) ∧ Below w.heap.size w w')
    (c3 : ∀ w, Calls Try.prog 39 #[wv bh bl, .int .i64 k] w fun e w' => e = .returned (wv th tl) ∧ Below w.heap.size w w')
    (c4 : ∀ w, Calls Try.prog 39 #[wv ah al, .int .i64 k1] w fun e w' => e = .returned (wv uh ul) ∧ Below w.heap.size w w')
    (c5 : ∀ w, Calls Try.prog 39 #[wv bh bl, .int .i64 k1] w fun e w' => e = .returned (wv xh xl) ∧ Below w.heap.size w w')
    (hd : decide ((k : Int) < 128) = d) (h1 : ((ah : Int) == (bh : Int)) = e1) (h2 : ((al : Int) == (bl : Int)) = e2) (h3 : ((uh : Int) == (xh : Int)) = f1) (h4 : ((ul : Int) == (xl : Int)) = f2)
    (hk : IntKind.i64.wrap ((k : Int) + 1) = (k1 : Int))
    (hc : (d = false ∧ e1 = true ∧ e2 = true) ∨ (d = true ∧ (e1 = false ∨ (e1 = true ∧ e2 = false)) ∧ (f1 = false ∨ (f1 = true ∧ f2 = false))))
    (g1 : decide (n < 0) = q1) (g2 : decide (128 < n) = q2)
    (hin : q1 = false → q2 = false → IntKind.i64.wrap (128 - n) = m ∧
      (∀ w, Calls Try.prog 32 #[wv ah al, .int .i64 m] w fun e w' => e = .returned (wv ph pl) ∧ Below w.heap.size w w') ∧
      (∀ w, Calls Try.prog 30 #[wv ph pl, .int .i64 m] w fun e w' => e = .returned (wv yh yl) ∧ Below w.heap.size w w') ∧
      (∀ w, Calls Try.prog 39 #[wv ah al, .int .i64 n] w fun e w' => e = .returned (wv yh yl) ∧ Below w.heap.size w w') ∧
      (∀ w, Calls Try.prog 30 #[wv ah al, .int .i64 n] w fun e w' => e = .returned (wv qh ql) ∧ Below w.heap.size w w') ∧
      (∀ w, Calls Try.prog 32 #[wv qh ql, .int .i64 n] w fun e w' => e = .returned (wv zh zl) ∧ Below w.heap.size w w') ∧
      (∀ w, Calls Try.prog 36 #[wv yh yl, wv zh zl] w fun e w' => e = .returned (wv ah al) ∧ Below w.heap.size w w')) (w : World) :
    Calls Try.prog 8 #[wv ah al, wv bh bl, .int .i64 n] w fun e w' => e = .returned (.bool true) ∧ Below w.heap.size w w' := by
  have C1 := Lib.hid c1
  have C2 := Lib.hid c2
  have C3 := Lib.hid c3
  have C4 := Lib.hid c4
  have C5 := Lib.hid c5
  have HIN := Lib.hid hin
  have HC := Lib.hid hc
  clear c1 c2 c3 c4 c5 hin hc
  go_enter Try.func8, Try.ntmps8
  go_wp2_with fail
  have hX := ((Boxes.nil w).new 24 ah al).new 24 bh bl
  simp only [size_alloc] at hX
  generalize (w.alloc (.cells #[.int .u64 ah, .int .u64 al] 24)).alloc (.cells #[.int .u64 bh, .int .u64 bl] 24) = w0 at *
  have HX0 : Hid (Boxes w w0 [(w.heap.size + 1, 24, bh, bl), (w.heap.size, 24, ah, al)]) := hX
  clear hX
  obtain ⟨⟨r0, s0⟩, -, -⟩ := HX0.out.at (w.heap.size + 1) 24 bh bl (by simp)
  obtain ⟨⟨r1, s1⟩, -, -⟩ := HX0.out.at (w.heap.size) 24 ah al (by simp)
  go_wp2_with (first
    | (go_at_call 42; with_reducible refine (C1.out _).mono ?_; rintro e v1 ⟨rfl, hb1⟩
       have HY1 := Lib.hid (HX0.out.next hb1)
       clear hb1 r0 s0 r1 s1 HX0
       obtain ⟨⟨r0, s0⟩, -, -⟩ := HY1.out.at (w.heap.size + 1) 24 bh bl (by simp)
       obtain ⟨⟨r1, s1⟩, -, -⟩ := HY1.out.at (w.heap.size) 24 ah al (by simp)))
  go_cut [40] from 11 to 39 (fun s40 wx => s40 = .bool false ∧ Boxes w wx [(w.heap.size + 1, 24, bh, bl), (w.heap.size, 24, ah, al)])
  case first =>
    rcases HC.out with ⟨rfl, rfl, rfl⟩ | ⟨rfl, rfl | ⟨rfl, rfl⟩, rfl | ⟨rfl, rfl⟩⟩
    · clear HC HIN
      have HNk : ∀ W, Boxes w W [(w.heap.size + 1, 24, bh, bl), (w.heap.size, 24, ah, al)] → (Boxes w W [(w.heap.size + 1, 24, bh, bl), (w.heap.size, 24, ah, al)] ∧ (W.cell? ⟨w.heap.size + 1, 0, none⟩ = some (.int .u64 bh) ∧ W.cell? ⟨w.heap.size + 1, 1, none⟩ = some (.int .u64 bl)) ∧ (W.cell? ⟨w.heap.size, 0, none⟩ = some (.int .u64 ah) ∧ W.cell? ⟨w.heap.size, 1, none⟩ = some (.int .u64 al))) := fun W h => ⟨h, two_cells (h.all (w.heap.size + 1, 24, bh, bl) (by simp)), two_cells (h.all (w.heap.size, 24, ah, al) (by simp))⟩
      have HN : Hid (∀ W V, (Boxes w W [(w.heap.size + 1, 24, bh, bl), (w.heap.size, 24, ah, al)] ∧ (W.cell? ⟨w.heap.size + 1, 0, none⟩ = some (.int .u64 bh) ∧ W.cell? ⟨w.heap.size + 1, 1, none⟩ = some (.int .u64 bl)) ∧ (W.cell? ⟨w.heap.size, 0, none⟩ = some (.int .u64 ah) ∧ W.cell? ⟨w.heap.size, 1, none⟩ = some (.int .u64 al))) → Below W.heap.size W V → (Boxes w V [(w.heap.size + 1, 24, bh, bl), (w.heap.size, 24, ah, al)] ∧ (V.cell? ⟨w.heap.size + 1, 0, none⟩ = some (.int .u64 bh) ∧ V.cell? ⟨w.heap.size + 1, 1, none⟩ = some (.int .u64 bl)) ∧ (V.cell? ⟨w.heap.size, 0, none⟩ = some (.int .u64 ah) ∧ V.cell? ⟨w.heap.size, 1, none⟩ = some (.int .u64 al)))) := fun W V h hb => HNk _ (h.1.next hb)
      have HS0 : Hid (Boxes w v1.drew [(w.heap.size + 1, 24, bh, bl), (w.heap.size, 24, ah, al)] ∧ (v1.drew.cell? ⟨w.heap.size + 1, 0, none⟩ = some (.int .u64 bh) ∧ v1.drew.cell? ⟨w.heap.size + 1, 1, none⟩ = some (.int .u64 bl)) ∧ (v1.drew.cell? ⟨w.heap.size, 0, none⟩ = some (.int .u64 ah) ∧ v1.drew.cell? ⟨w.heap.size, 1, none⟩ = some (.int .u64 al))) := HNk _ (HY1.out.next ⟨rfl, rfl, rfl, Nat.le_refl _, fun _ _ => rfl⟩)
      have HF : Hid (∀ W, (Boxes w W [(w.heap.size + 1, 24, bh, bl), (w.heap.size, 24, ah, al)] ∧ (W.cell? ⟨w.heap.size + 1, 0, none⟩ = some (.int .u64 bh) ∧ W.cell? ⟨w.heap.size + 1, 1, none⟩ = some (.int .u64 bl)) ∧ (W.cell? ⟨w.heap.size, 0, none⟩ = some (.int .u64 ah) ∧ W.cell? ⟨w.heap.size, 1, none⟩ = some (.int .u64 al))) → Below w.heap.size w W) := fun W h => h.1.below
      clear HNk r0 s0 r1 s1
      refine wp_region_noPanic ?_
      refine wp_region_held_drew (S := fun W => Boxes w W [(w.heap.size + 1, 24, bh, bl), (w.heap.size, 24, ah, al)] ∧ (W.cell? ⟨w.heap.size + 1, 0, none⟩ = some (.int .u64 bh) ∧ W.cell? ⟨w.heap.size + 1, 1, none⟩ = some (.int .u64 bl)) ∧ (W.cell? ⟨w.heap.size, 0, none⟩ = some (.int .u64 ah) ∧ W.cell? ⟨w.heap.size, 1, none⟩ = some (.int .u64 al))) (by kernel_rfl) ?_ (fun hHeld => ?_)
      · exact HS0.out
      refine wpAnyH_take (i := 0) (oi := { dst := some 11, op := Op.load 24 (Operand.tmp 3), type := 24, pos := "outright.go:28", after := #[], guard := none }) (v := ?_) rfl (by kernel_rfl) (by kernel_rfl) (by kernel_rfl) (fun _ _ _ h => h) (Or.inl ⟨by rfl, ?_⟩) (by assumption) ?_
      rotate_left
      · (intro w9 hS9; (try dsimp only at hS9); go_simp); all_goals (with_reducible rfl)
      (try simp only [Act.put, List.setIfInBounds_toArray, List.set_cons_zero, List.set_cons_succ])
      refine wpAnyH_take (i := 1) (oi := { dst := some 12, op := Op.move (Operand.tmp 7), type := 3, pos := "outright.go:28", after := #[], guard := none }) (v := ?_) rfl (by kernel_rfl) (by kernel_rfl) (by kernel_rfl) (fun _ _ _ h => h) (Or.inl ⟨by rfl, ?_⟩) (by assumption) ?_
      rotate_left
      · (intro w9 hS9; (try dsimp only at hS9); go_simp); all_goals (with_reducible rfl)
      (try simp only [Act.put, List.setIfInBounds_toArray, List.set_cons_zero, List.set_cons_succ])
      refine wpAnyH_take (i := 3) (oi := { dst := some 14, op := Op.load 24 (Operand.tmp 4), type := 24, pos := "outright.go:28", after := #[], guard := none }) (v := ?_) rfl (by kernel_rfl) (by kernel_rfl) (by kernel_rfl) (fun _ _ _ h => h) (Or.inl ⟨by rfl, ?_⟩) (by assumption) ?_
      rotate_left
      · (intro w9 hS9; (try dsimp only at hS9); go_simp); all_goals (with_reducible rfl)
      (try simp only [Act.put, List.setIfInBounds_toArray, List.set_cons_zero, List.set_cons_succ])
      refine wpAnyH_take (i := 4) (oi := { dst := some 15, op := Op.move (Operand.tmp 7), type := 3, pos := "outright.go:28", after := #[], guard := none }) (v := ?_) rfl (by kernel_rfl) (by kernel_rfl) (by kernel_rfl) (fun _ _ _ h => h) (Or.inl ⟨by rfl, ?_⟩) (by assumption) ?_
      rotate_left
      · (intro w9 hS9; (try dsimp only at hS9); go_simp); all_goals (with_reducible rfl)
      (try simp only [Act.put, List.setIfInBounds_toArray, List.set_cons_zero, List.set_cons_succ])
      refine wpAnyH_ready (rs := [2]) (by kernel_rfl) (by simp) ?_
      refine AllReadyH.cons (o := { dst := some 13, op := Op.call { callee := Callee.value (Operand.func 39), args := #[Operand.tmp 11, Operand.tmp 12], argTypes := #[24, 3] }, type := 24, pos := "outright.go:28", after := #[{ on := 0, ground := Ground.data }, { on := 1, ground := Ground.data }], guard := none }) rfl (fun K hK => ?_) ?_
      · go_simp
        with_reducible refine (C2.out _).mono ?_
        rintro e w1 ⟨rfl, hb1⟩
        have hS1 := HN.out _ _ (by assumption) hb1
        clear hb1
        (try go_wp2_with fail)
        refine hK.out _ _ ?_ (fun hHeld => ?_)
        · exact hS1
        clear hK K
        (try simp only [Act.put, List.setIfInBounds_toArray, List.set_cons_zero, List.set_cons_succ])
        refine wpAnyH_ready (rs := [5]) (by kernel_rfl) (by simp) ?_
        refine AllReadyH.cons (o := { dst := some 16, op := Op.call { callee := Callee.value (Operand.func 39), args := #[Operand.tmp 14, Operand.tmp 15], argTypes := #[24, 3] }, type := 24, pos := "outright.go:28", after := #[{ on := 3, ground := Ground.data }, { on := 4, ground := Ground.data }, { on := 2, ground := Ground.chain }], guard := none }) rfl (fun K hK => ?_) ?_
        · go_simp
          with_reducible refine (C3.out _).mono ?_
          rintro e w1 ⟨rfl, hb1⟩
          have hS1 := HN.out _ _ (by assumption) hb1
          clear hb1
          (try go_wp2_with fail)
          refine hK.out _ _ ?_ (fun hHeld => ?_)
          · exact hS1
          clear hK K
          (try simp only [Act.put, List.setIfInBounds_toArray, List.set_cons_zero, List.set_cons_succ])
          refine wpAnyH_take (i := 6) (oi := { dst := some 17, op := Op.binOp BinOp.neq 24 (Operand.tmp 13) (Operand.tmp 16) 24, type := 4, pos := "outright.go:28", after := #[{ on := 2, ground := Ground.data }, { on := 5, ground := Ground.data }], guard := none }) (v := ?_) rfl (by kernel_rfl) (by kernel_rfl) (by kernel_rfl) (fun _ _ _ h => h) (Or.inl ⟨by rfl, ?_⟩) (by assumption) ?_
          rotate_left
          · (intro w9 hS9; (try dsimp only at hS9); go_simp); all_goals (with_reducible rfl)
          (try simp only [Act.put, List.setIfInBounds_toArray, List.set_cons_zero, List.set_cons_succ])
          refine wpAnyH_take (i := 7) (oi := { dst := some 18, op := Op.move (Operand.tmp 17), type := 4, pos := "outright.go:28", after := #[{ on := 6, ground := Ground.data }, { on := 5, ground := Ground.chain }], guard := none }) (v := ?_) rfl (by kernel_rfl) (by kernel_rfl) (by kernel_rfl) (fun _ _ _ h => h) (Or.inl ⟨by rfl, ?_⟩) (by assumption) ?_
          rotate_left
          · (intro w9 hS9; (try dsimp only at hS9); go_simp); all_goals (with_reducible rfl)
          (try simp only [Act.put, List.setIfInBounds_toArray, List.set_cons_zero, List.set_cons_succ])
          refine wpAnyH_take (i := 8) (oi := { dst := some 19, op := Op.move (Operand.tmp 7), type := 3, pos := "outright.go:28", after := #[{ on := 7, ground := Ground.guard }], guard := some (7, false) }) (v := ?_) rfl (by kernel_rfl) (by kernel_rfl) (by kernel_rfl) (fun _ _ _ h => h) (Or.inl ⟨by rfl, ?_⟩) (by assumption) ?_
          rotate_left
          · (intro w9 hS9; (try dsimp only at hS9); go_simp); all_goals (with_reducible rfl)
          (try simp only [Act.put, List.setIfInBounds_toArray, List.set_cons_zero, List.set_cons_succ])
          refine wpAnyH_take (i := 9) (oi := { dst := some 20, op := Op.binOp BinOp.lss 3 (Operand.tmp 19) (Operand.const (Value.int IntKind.i64 128)) 3, type := 4, pos := "outright.go:28", after := #[{ on := 8, ground := Ground.data }, { on := 7, ground := Ground.guard }], guard := some (7, false) }) (v := ?_) rfl (by kernel_rfl) (by kernel_rfl) (by kernel_rfl) (fun _ _ _ h => h) (Or.inl ⟨by rfl, ?_⟩) (by assumption) ?_
          rotate_left
          · (intro w9 hS9; (try dsimp only at hS9); go_simp); all_goals (with_reducible rfl)
          (try simp only [Act.put, List.setIfInBounds_toArray, List.set_cons_zero, List.set_cons_succ])
          refine wpAnyH_take (i := 10) (oi := { dst := some 21, op := Op.load 24 (Operand.tmp 3), type := 24, pos := "outright.go:28", after := #[{ on := 7, ground := Ground.guard }], guard := some (7, false) }) (v := ?_) rfl (by kernel_rfl) (by kernel_rfl) (by kernel_rfl) (fun _ _ _ h => h) (Or.inl ⟨by rfl, ?_⟩) (by assumption) ?_
          rotate_left
          · (intro w9 hS9; (try dsimp only at hS9); go_simp); all_goals (with_reducible rfl)
          (try simp only [Act.put, List.setIfInBounds_toArray, List.set_cons_zero, List.set_cons_succ])
          refine wpAnyH_take (i := 11) (oi := { dst := some 22, op := Op.load 24 (Operand.tmp 4), type := 24, pos := "outright.go:28", after := #[{ on := 7, ground := Ground.guard }], guard := some (7, false) }) (v := ?_) rfl (by kernel_rfl) (by kernel_rfl) (by kernel_rfl) (fun _ _ _ h => h) (Or.inl ⟨by rfl, ?_⟩) (by assumption) ?_
          rotate_left
          · (intro w9 hS9; (try dsimp only at hS9); go_simp); all_goals (with_reducible rfl)
          (try simp only [Act.put, List.setIfInBounds_toArray, List.set_cons_zero, List.set_cons_succ])
          refine wpAnyH_take (i := 12) (oi := { dst := some 23, op := Op.binOp BinOp.eql 24 (Operand.tmp 21) (Operand.tmp 22) 24, type := 4, pos := "outright.go:28", after := #[{ on := 10, ground := Ground.data }, { on := 11, ground := Ground.data }, { on := 7, ground := Ground.guard }], guard := some (7, false) }) (v := ?_) rfl (by kernel_rfl) (by kernel_rfl) (by kernel_rfl) (fun _ _ _ h => h) (Or.inl ⟨by rfl, ?_⟩) (by assumption) ?_
          rotate_left
          · (intro w9 hS9; (try dsimp only at hS9); go_simp); all_goals (with_reducible rfl)
          (try simp only [Act.put, List.setIfInBounds_toArray, List.set_cons_zero, List.set_cons_succ])
          refine wpAnyH_take (i := 13) (oi := { dst := some 24, op := Op.binOp BinOp.eql 4 (Operand.tmp 20) (Operand.tmp 23) 4, type := 4, pos := "outright.go:28", after := #[{ on := 9, ground := Ground.data }, { on := 12, ground := Ground.data }, { on := 7, ground := Ground.guard }], guard := some (7, false) }) (v := ?_) rfl (by kernel_rfl) (by kernel_rfl) (by kernel_rfl) (fun _ _ _ h => h) (Or.inl ⟨by rfl, ?_⟩) (by assumption) ?_
          rotate_left
          · (intro w9 hS9; (try dsimp only at hS9); go_simp); all_goals (with_reducible rfl)
          (try simp only [Act.put, List.setIfInBounds_toArray, List.set_cons_zero, List.set_cons_succ])
          refine wpAnyH_take (i := 14) (oi := { dst := some 25, op := Op.pick (Operand.tmp 18) (Operand.const (Value.bool true)) (Operand.tmp 24), type := 4, pos := "outright.go:28", after := #[{ on := 7, ground := Ground.data }, { on := 13, ground := Ground.data }], guard := none }) (v := ?_) rfl (by kernel_rfl) (by kernel_rfl) (by kernel_rfl) (fun _ _ _ h => h) (Or.inl ⟨by rfl, ?_⟩) (by assumption) ?_
          rotate_left
          · (intro w9 hS9; (try dsimp only at hS9); go_simp); all_goals (with_reducible rfl)
          (try simp only [Act.put, List.setIfInBounds_toArray, List.set_cons_zero, List.set_cons_succ])
          refine wpAnyH_take (i := 15) (oi := { dst := some 26, op := Op.move (Operand.tmp 25), type := 4, pos := "outright.go:28", after := #[{ on := 14, ground := Ground.data }, { on := 7, ground := Ground.chain }], guard := none }) (v := ?_) rfl (by kernel_rfl) (by kernel_rfl) (by kernel_rfl) (fun _ _ _ h => h) (Or.inl ⟨by rfl, ?_⟩) (by assumption) ?_
          rotate_left
          · (intro w9 hS9; (try dsimp only at hS9); go_simp); all_goals (with_reducible rfl)
          (try simp only [Act.put, List.setIfInBounds_toArray, List.set_cons_zero, List.set_cons_succ])
          refine wpAnyH_take (i := 16) (oi := { dst := some 27, op := Op.move (Operand.tmp 7), type := 3, pos := "outright.go:28", after := #[{ on := 15, ground := Ground.guard }], guard := some (15, false) }) (v := ?_) rfl (by kernel_rfl) (by kernel_rfl) (by kernel_rfl) (fun _ _ _ h => h) (Or.inl ⟨by rfl, ?_⟩) (by assumption) ?_
          rotate_left
          · (intro w9 hS9; (try dsimp only at hS9); go_simp); all_goals (with_reducible rfl)
          (try simp only [Act.put, List.setIfInBounds_toArray, List.set_cons_zero, List.set_cons_succ])
          refine wpAnyH_take (i := 17) (oi := { dst := some 28, op := Op.binOp BinOp.lss 3 (Operand.tmp 27) (Operand.const (Value.int IntKind.i64 128)) 3, type := 4, pos := "outright.go:28", after := #[{ on := 16, ground := Ground.data }, { on := 15, ground := Ground.guard }], guard := some (15, false) }) (v := ?_) rfl (by kernel_rfl) (by kernel_rfl) (by kernel_rfl) (fun _ _ _ h => h) (Or.inl ⟨by rfl, ?_⟩) (by assumption) ?_
          rotate_left
          · (intro w9 hS9; (try dsimp only at hS9); go_simp); all_goals (with_reducible rfl)
          (try simp only [Act.put, List.setIfInBounds_toArray, List.set_cons_zero, List.set_cons_succ])
          refine wpAnyH_take (i := 18) (oi := { dst := some 29, op := Op.move (Operand.tmp 28), type := 4, pos := "outright.go:28", after := #[{ on := 17, ground := Ground.data }, { on := 15, ground := Ground.chain }, { on := 15, ground := Ground.guard }], guard := some (15, false) }) (v := ?_) rfl (by kernel_rfl) (by kernel_rfl) (by kernel_rfl) (fun _ _ _ h => h) (Or.inl ⟨by rfl, ?_⟩) (by assumption) ?_
          rotate_left
          · (intro w9 hS9; (try dsimp only at hS9); go_simp); all_goals (with_reducible rfl)
          (try simp only [Act.put, List.setIfInBounds_toArray, List.set_cons_zero, List.set_cons_succ])
          refine wpAnyH_take (i := 19) (oi := { dst := some 30, op := Op.load 24 (Operand.tmp 3), type := 24, pos := "outright.go:28", after := #[{ on := 18, ground := Ground.guard }], guard := some (18, true) }) rfl (by kernel_rfl) (by kernel_rfl) (by kernel_rfl) (fun _ _ _ h => h) (Or.inr ⟨by rfl, rfl⟩) (by assumption) ?_
          (try simp only [Act.put, List.setIfInBounds_toArray, List.set_cons_zero, List.set_cons_succ])
          refine wpAnyH_take (i := 20) (oi := { dst := some 31, op := Op.move (Operand.tmp 7), type := 3, pos := "outright.go:28", after := #[{ on := 18, ground := Ground.guard }], guard := some (18, true) }) rfl (by kernel_rfl) (by kernel_rfl) (by kernel_rfl) (fun _ _ _ h => h) (Or.inr ⟨by rfl, rfl⟩) (by assumption) ?_
          (try simp only [Act.put, List.setIfInBounds_toArray, List.set_cons_zero, List.set_cons_succ])
          refine wpAnyH_take (i := 21) (oi := { dst := some 32, op := Op.binOp BinOp.add 3 (Operand.tmp 31) (Operand.const (Value.int IntKind.i64 1)) 3, type := 3, pos := "outright.go:28", after := #[{ on := 20, ground := Ground.data }, { on := 18, ground := Ground.guard }], guard := some (18, true) }) rfl (by kernel_rfl) (by kernel_rfl) (by kernel_rfl) (fun _ _ _ h => h) (Or.inr ⟨by rfl, rfl⟩) (by assumption) ?_
          (try simp only [Act.put, List.setIfInBounds_toArray, List.set_cons_zero, List.set_cons_succ])
          refine wpAnyH_take (i := 22) (oi := { dst := some 33, op := Op.call { callee := Callee.value (Operand.func 39), args := #[Operand.tmp 30, Operand.tmp 32], argTypes := #[24, 3] }, type := 24, pos := "outright.go:28", after := #[{ on := 19, ground := Ground.data }, { on := 21, ground := Ground.data }, { on := 18, ground := Ground.chain }, { on := 18, ground := Ground.guard }], guard := some (18, true) }) rfl (by kernel_rfl) (by kernel_rfl) (by kernel_rfl) (fun _ _ _ h => h) (Or.inr ⟨by rfl, rfl⟩) (by assumption) ?_
          (try simp only [Act.put, List.setIfInBounds_toArray, List.set_cons_zero, List.set_cons_succ])
          refine wpAnyH_take (i := 23) (oi := { dst := some 34, op := Op.load 24 (Operand.tmp 4), type := 24, pos := "outright.go:28", after := #[{ on := 18, ground := Ground.guard }], guard := some (18, true) }) rfl (by kernel_rfl) (by kernel_rfl) (by kernel_rfl) (fun _ _ _ h => h) (Or.inr ⟨by rfl, rfl⟩) (by assumption) ?_
          (try simp only [Act.put, List.setIfInBounds_toArray, List.set_cons_zero, List.set_cons_succ])
          refine wpAnyH_take (i := 24) (oi := { dst := some 35, op := Op.move (Operand.tmp 7), type := 3, pos := "outright.go:28", after := #[{ on := 18, ground := Ground.guard }], guard := some (18, true) }) rfl (by kernel_rfl) (by kernel_rfl) (by kernel_rfl) (fun _ _ _ h => h) (Or.inr ⟨by rfl, rfl⟩) (by assumption) ?_
          (try simp only [Act.put, List.setIfInBounds_toArray, List.set_cons_zero, List.set_cons_succ])
          refine wpAnyH_take (i := 25) (oi := { dst := some 36, op := Op.binOp BinOp.add 3 (Operand.tmp 35) (Operand.const (Value.int IntKind.i64 1)) 3, type := 3, pos := "outright.go:28", after := #[{ on := 24, ground := Ground.data }, { on := 18, ground := Ground.guard }], guard := some (18, true) }) rfl (by kernel_rfl) (by kernel_rfl) (by kernel_rfl) (fun _ _ _ h => h) (Or.inr ⟨by rfl, rfl⟩) (by assumption) ?_
          (try simp only [Act.put, List.setIfInBounds_toArray, List.set_cons_zero, List.set_cons_succ])
          refine wpAnyH_take (i := 26) (oi := { dst := some 37, op := Op.call { callee := Callee.value (Operand.func 39), args := #[Operand.tmp 34, Operand.tmp 36], argTypes := #[24, 3] }, type := 24, pos := "outright.go:28", after := #[{ on := 23, ground := Ground.data }, { on := 25, ground := Ground.data }, { on := 22, ground := Ground.chain }, { on := 18, ground := Ground.guard }], guard := some (18, true) }) rfl (by kernel_rfl) (by kernel_rfl) (by kernel_rfl) (fun _ _ _ h => h) (Or.inr ⟨by rfl, rfl⟩) (by assumption) ?_
          (try simp only [Act.put, List.setIfInBounds_toArray, List.set_cons_zero, List.set_cons_succ])
          refine wpAnyH_take (i := 27) (oi := { dst := some 38, op := Op.binOp BinOp.eql 24 (Operand.tmp 33) (Operand.tmp 37) 24, type := 4, pos := "outright.go:28", after := #[{ on := 22, ground := Ground.data }, { on := 26, ground := Ground.data }, { on := 18, ground := Ground.guard }], guard := some (18, true) }) rfl (by kernel_rfl) (by kernel_rfl) (by kernel_rfl) (fun _ _ _ h => h) (Or.inr ⟨by rfl, rfl⟩) (by assumption) ?_
          (try simp only [Act.put, List.setIfInBounds_toArray, List.set_cons_zero, List.set_cons_succ])
          refine wpAnyH_take (i := 28) (oi := { dst := some 39, op := Op.pick (Operand.tmp 29) (Operand.tmp 38) (Operand.const (Value.bool false)), type := 4, pos := "outright.go:28", after := #[{ on := 18, ground := Ground.data }, { on := 27, ground := Ground.data }, { on := 15, ground := Ground.guard }], guard := some (15, false) }) (v := ?_) rfl (by kernel_rfl) (by kernel_rfl) (by kernel_rfl) (fun _ _ _ h => h) (Or.inl ⟨by rfl, ?_⟩) (by assumption) ?_
          rotate_left
          · (intro w9 hS9; (try dsimp only at hS9); go_simp); all_goals (with_reducible rfl)
          (try simp only [Act.put, List.setIfInBounds_toArray, List.set_cons_zero, List.set_cons_succ])
          refine wpAnyH_take (i := 29) (oi := { dst := some 40, op := Op.pick (Operand.tmp 26) (Operand.const (Value.bool true)) (Operand.tmp 39), type := 4, pos := "outright.go:28", after := #[{ on := 15, ground := Ground.data }, { on := 28, ground := Ground.data }], guard := none }) (v := ?_) rfl (by kernel_rfl) (by kernel_rfl) (by kernel_rfl) (fun _ _ _ h => h) (Or.inl ⟨by rfl, ?_⟩) (by assumption) ?_
          rotate_left
          · (intro w9 hS9; (try dsimp only at hS9); go_simp); all_goals (with_reducible rfl)
          (try simp only [Act.put, List.setIfInBounds_toArray, List.set_cons_zero, List.set_cons_succ])
          refine wpAnyH_done (by kernel_rfl) (NoPanic.normal ?_) _
          go_wp2_with fail
          go_meet
          case rel => exact ⟨rfl, And.left (by assumption)⟩
        exact AllReadyH.nil
      exact AllReadyH.nil
    · clear HC HIN
      have HNk : ∀ W, Boxes w W [(w.heap.size + 1, 24, bh, bl), (w.heap.size, 24, ah, al)] → (Boxes w W [(w.heap.size + 1, 24, bh, bl), (w.heap.size, 24, ah, al)] ∧ (W.cell? ⟨w.heap.size + 1, 0, none⟩ = some (.int .u64 bh) ∧ W.cell? ⟨w.heap.size + 1, 1, none⟩ = some (.int .u64 bl)) ∧ (W.cell? ⟨w.heap.size, 0, none⟩ = some (.int .u64 ah) ∧ W.cell? ⟨w.heap.size, 1, none⟩ = some (.int .u64 al))) := fun W h => ⟨h, two_cells (h.all (w.heap.size + 1, 24, bh, bl) (by simp)), two_cells (h.all (w.heap.size, 24, ah, al) (by simp))⟩
      have HN : Hid (∀ W V, (Boxes w W [(w.heap.size + 1, 24, bh, bl), (w.heap.size, 24, ah, al)] ∧ (W.cell? ⟨w.heap.size + 1, 0, none⟩ = some (.int .u64 bh) ∧ W.cell? ⟨w.heap.size + 1, 1, none⟩ = some (.int .u64 bl)) ∧ (W.cell? ⟨w.heap.size, 0, none⟩ = some (.int .u64 ah) ∧ W.cell? ⟨w.heap.size, 1, none⟩ = some (.int .u64 al))) → Below W.heap.size W V → (Boxes w V [(w.heap.size + 1, 24, bh, bl), (w.heap.size, 24, ah, al)] ∧ (V.cell? ⟨w.heap.size + 1, 0, none⟩ = some (.int .u64 bh) ∧ V.cell? ⟨w.heap.size + 1, 1, none⟩ = some (.int .u64 bl)) ∧ (V.cell? ⟨w.heap.size, 0, none⟩ = some (.int .u64 ah) ∧ V.cell? ⟨w.heap.size, 1, none⟩ = some (.int .u64 al)))) := fun W V h hb => HNk _ (h.1.next hb)
      have HS0 : Hid (Boxes w v1.drew [(w.heap.size + 1, 24, bh, bl), (w.heap.size, 24, ah, al)] ∧ (v1.drew.cell? ⟨w.heap.size + 1, 0, none⟩ = some (.int .u64 bh) ∧ v1.drew.cell? ⟨w.heap.size + 1, 1, none⟩ = some (.int .u64 bl)) ∧ (v1.drew.cell? ⟨w.heap.size, 0, none⟩ = some (.int .u64 ah) ∧ v1.drew.cell? ⟨w.heap.size, 1, none⟩ = some (.int .u64 al))) := HNk _ (HY1.out.next ⟨rfl, rfl, rfl, Nat.le_refl _, fun _ _ => rfl⟩)
      have HF : Hid (∀ W, (Boxes w W [(w.heap.size + 1, 24, bh, bl), (w.heap.size, 24, ah, al)] ∧ (W.cell? ⟨w.heap.size + 1, 0, none⟩ = some (.int .u64 bh) ∧ W.cell? ⟨w.heap.size + 1, 1, none⟩ = some (.int .u64 bl)) ∧ (W.cell? ⟨w.heap.size, 0, none⟩ = some (.int .u64 ah) ∧ W.cell? ⟨w.heap.size, 1, none⟩ = some (.int .u64 al))) → Below w.heap.size w W) := fun W h => h.1.below
      clear HNk r0 s0 r1 s1
      refine wp_region_noPanic ?_
      refine wp_region_held_drew (S := fun W => Boxes w W [(w.heap.size + 1, 24, bh, bl), (w.heap.size, 24, ah, al)] ∧ (W.cell? ⟨w.heap.size + 1, 0, none⟩ = some (.int .u64 bh) ∧ W.cell? ⟨w.heap.size + 1, 1, none⟩ = some (.int .u64 bl)) ∧ (W.cell? ⟨w.heap.size, 0, none⟩ = some (.int .u64 ah) ∧ W.cell? ⟨w.heap.size, 1, none⟩ = some (.int .u64 al))) (by kernel_rfl) ?_ (fun hHeld => ?_)
      · exact HS0.out
      refine wpAnyH_take (i := 0) (oi := { dst := some 11, op := Op.load 24 (Operand.tmp 3), type := 24, pos := "outright.go:28", after := #[], guard := none }) (v := ?_) rfl (by kernel_rfl) (by kernel_rfl) (by kernel_rfl) (fun _ _ _ h => h) (Or.inl ⟨by rfl, ?_⟩) (by assumption) ?_
      rotate_left
      · (intro w9 hS9; (try dsimp only at hS9); go_simp); all_goals (with_reducible rfl)
      (try simp only [Act.put, List.setIfInBounds_toArray, List.set_cons_zero, List.set_cons_succ])
      refine wpAnyH_take (i := 1) (oi := { dst := some 12, op := Op.move (Operand.tmp 7), type := 3, pos := "outright.go:28", after := #[], guard := none }) (v := ?_) rfl (by kernel_rfl) (by kernel_rfl) (by kernel_rfl) (fun _ _ _ h => h) (Or.inl ⟨by rfl, ?_⟩) (by assumption) ?_
      rotate_left
      · (intro w9 hS9; (try dsimp only at hS9); go_simp); all_goals (with_reducible rfl)
      (try simp only [Act.put, List.setIfInBounds_toArray, List.set_cons_zero, List.set_cons_succ])
      refine wpAnyH_take (i := 3) (oi := { dst := some 14, op := Op.load 24 (Operand.tmp 4), type := 24, pos := "outright.go:28", after := #[], guard := none }) (v := ?_) rfl (by kernel_rfl) (by kernel_rfl) (by kernel_rfl) (fun _ _ _ h => h) (Or.inl ⟨by rfl, ?_⟩) (by assumption) ?_
      rotate_left
      · (intro w9 hS9; (try dsimp only at hS9); go_simp); all_goals (with_reducible rfl)
      (try simp only [Act.put, List.setIfInBounds_toArray, List.set_cons_zero, List.set_cons_succ])
      refine wpAnyH_take (i := 4) (oi := { dst := some 15, op := Op.move (Operand.tmp 7), type := 3, pos := "outright.go:28", after := #[], guard := none }) (v := ?_) rfl (by kernel_rfl) (by kernel_rfl) (by kernel_rfl) (fun _ _ _ h => h) (Or.inl ⟨by rfl, ?_⟩) (by assumption) ?_
      rotate_left
      · (intro w9 hS9; (try dsimp only at hS9); go_simp); all_goals (with_reducible rfl)
      (try simp only [Act.put, List.setIfInBounds_toArray, List.set_cons_zero, List.set_cons_succ])
      refine wpAnyH_ready (rs := [2]) (by kernel_rfl) (by simp) ?_
      refine AllReadyH.cons (o := { dst := some 13, op := Op.call { callee := Callee.value (Operand.func 39), args := #[Operand.tmp 11, Operand.tmp 12], argTypes := #[24, 3] }, type := 24, pos := "outright.go:28", after := #[{ on := 0, ground := Ground.data }, { on := 1, ground := Ground.data }], guard := none }) rfl (fun K hK => ?_) ?_
      · go_simp
        with_reducible refine (C2.out _).mono ?_
        rintro e w1 ⟨rfl, hb1⟩
        have hS1 := HN.out _ _ (by assumption) hb1
        clear hb1
        (try go_wp2_with fail)
        refine hK.out _ _ ?_ (fun hHeld => ?_)
        · exact hS1
        clear hK K
        (try simp only [Act.put, List.setIfInBounds_toArray, List.set_cons_zero, List.set_cons_succ])
        refine wpAnyH_ready (rs := [5]) (by kernel_rfl) (by simp) ?_
        refine AllReadyH.cons (o := { dst := some 16, op := Op.call { callee := Callee.value (Operand.func 39), args := #[Operand.tmp 14, Operand.tmp 15], argTypes := #[24, 3] }, type := 24, pos := "outright.go:28", after := #[{ on := 3, ground := Ground.data }, { on := 4, ground := Ground.data }, { on := 2, ground := Ground.chain }], guard := none }) rfl (fun K hK => ?_) ?_
        · go_simp
          with_reducible refine (C3.out _).mono ?_
          rintro e w1 ⟨rfl, hb1⟩
          have hS1 := HN.out _ _ (by assumption) hb1
          clear hb1
          (try go_wp2_with fail)
          refine hK.out _ _ ?_ (fun hHeld => ?_)
          · exact hS1
          clear hK K
          (try simp only [Act.put, List.setIfInBounds_toArray, List.set_cons_zero, List.set_cons_succ])
          refine wpAnyH_take (i := 6) (oi := { dst := some 17, op := Op.binOp BinOp.neq 24 (Operand.tmp 13) (Operand.tmp 16) 24, type := 4, pos := "outright.go:28", after := #[{ on := 2, ground := Ground.data }, { on := 5, ground := Ground.data }], guard := none }) (v := ?_) rfl (by kernel_rfl) (by kernel_rfl) (by kernel_rfl) (fun _ _ _ h => h) (Or.inl ⟨by rfl, ?_⟩) (by assumption) ?_
          rotate_left
          · (intro w9 hS9; (try dsimp only at hS9); go_simp); all_goals (with_reducible rfl)
          (try simp only [Act.put, List.setIfInBounds_toArray, List.set_cons_zero, List.set_cons_succ])
          refine wpAnyH_take (i := 7) (oi := { dst := some 18, op := Op.move (Operand.tmp 17), type := 4, pos := "outright.go:28", after := #[{ on := 6, ground := Ground.data }, { on := 5, ground := Ground.chain }], guard := none }) (v := ?_) rfl (by kernel_rfl) (by kernel_rfl) (by kernel_rfl) (fun _ _ _ h => h) (Or.inl ⟨by rfl, ?_⟩) (by assumption) ?_
          rotate_left
          · (intro w9 hS9; (try dsimp only at hS9); go_simp); all_goals (with_reducible rfl)
          (try simp only [Act.put, List.setIfInBounds_toArray, List.set_cons_zero, List.set_cons_succ])
          refine wpAnyH_take (i := 8) (oi := { dst := some 19, op := Op.move (Operand.tmp 7), type := 3, pos := "outright.go:28", after := #[{ on := 7, ground := Ground.guard }], guard := some (7, false) }) (v := ?_) rfl (by kernel_rfl) (by kernel_rfl) (by kernel_rfl) (fun _ _ _ h => h) (Or.inl ⟨by rfl, ?_⟩) (by assumption) ?_
          rotate_left
          · (intro w9 hS9; (try dsimp only at hS9); go_simp); all_goals (with_reducible rfl)
          (try simp only [Act.put, List.setIfInBounds_toArray, List.set_cons_zero, List.set_cons_succ])
          refine wpAnyH_take (i := 9) (oi := { dst := some 20, op := Op.binOp BinOp.lss 3 (Operand.tmp 19) (Operand.const (Value.int IntKind.i64 128)) 3, type := 4, pos := "outright.go:28", after := #[{ on := 8, ground := Ground.data }, { on := 7, ground := Ground.guard }], guard := some (7, false) }) (v := ?_) rfl (by kernel_rfl) (by kernel_rfl) (by kernel_rfl) (fun _ _ _ h => h) (Or.inl ⟨by rfl, ?_⟩) (by assumption) ?_
          rotate_left
          · (intro w9 hS9; (try dsimp only at hS9); go_simp); all_goals (with_reducible rfl)
          (try simp only [Act.put, List.setIfInBounds_toArray, List.set_cons_zero, List.set_cons_succ])
          refine wpAnyH_take (i := 10) (oi := { dst := some 21, op := Op.load 24 (Operand.tmp 3), type := 24, pos := "outright.go:28", after := #[{ on := 7, ground := Ground.guard }], guard := some (7, false) }) (v := ?_) rfl (by kernel_rfl) (by kernel_rfl) (by kernel_rfl) (fun _ _ _ h => h) (Or.inl ⟨by rfl, ?_⟩) (by assumption) ?_
          rotate_left
          · (intro w9 hS9; (try dsimp only at hS9); go_simp); all_goals (with_reducible rfl)
          (try simp only [Act.put, List.setIfInBounds_toArray, List.set_cons_zero, List.set_cons_succ])
          refine wpAnyH_take (i := 11) (oi := { dst := some 22, op := Op.load 24 (Operand.tmp 4), type := 24, pos := "outright.go:28", after := #[{ on := 7, ground := Ground.guard }], guard := some (7, false) }) (v := ?_) rfl (by kernel_rfl) (by kernel_rfl) (by kernel_rfl) (fun _ _ _ h => h) (Or.inl ⟨by rfl, ?_⟩) (by assumption) ?_
          rotate_left
          · (intro w9 hS9; (try dsimp only at hS9); go_simp); all_goals (with_reducible rfl)
          (try simp only [Act.put, List.setIfInBounds_toArray, List.set_cons_zero, List.set_cons_succ])
          refine wpAnyH_take (i := 12) (oi := { dst := some 23, op := Op.binOp BinOp.eql 24 (Operand.tmp 21) (Operand.tmp 22) 24, type := 4, pos := "outright.go:28", after := #[{ on := 10, ground := Ground.data }, { on := 11, ground := Ground.data }, { on := 7, ground := Ground.guard }], guard := some (7, false) }) (v := ?_) rfl (by kernel_rfl) (by kernel_rfl) (by kernel_rfl) (fun _ _ _ h => h) (Or.inl ⟨by rfl, ?_⟩) (by assumption) ?_
          rotate_left
          · (intro w9 hS9; (try dsimp only at hS9); go_simp); all_goals (with_reducible rfl)
          (try simp only [Act.put, List.setIfInBounds_toArray, List.set_cons_zero, List.set_cons_succ])
          refine wpAnyH_take (i := 13) (oi := { dst := some 24, op := Op.binOp BinOp.eql 4 (Operand.tmp 20) (Operand.tmp 23) 4, type := 4, pos := "outright.go:28", after := #[{ on := 9, ground := Ground.data }, { on := 12, ground := Ground.data }, { on := 7, ground := Ground.guard }], guard := some (7, false) }) (v := ?_) rfl (by kernel_rfl) (by kernel_rfl) (by kernel_rfl) (fun _ _ _ h => h) (Or.inl ⟨by rfl, ?_⟩) (by assumption) ?_
          rotate_left
          · (intro w9 hS9; (try dsimp only at hS9); go_simp); all_goals (with_reducible rfl)
          (try simp only [Act.put, List.setIfInBounds_toArray, List.set_cons_zero, List.set_cons_succ])
          refine wpAnyH_take (i := 14) (oi := { dst := some 25, op := Op.pick (Operand.tmp 18) (Operand.const (Value.bool true)) (Operand.tmp 24), type := 4, pos := "outright.go:28", after := #[{ on := 7, ground := Ground.data }, { on := 13, ground := Ground.data }], guard := none }) (v := ?_) rfl (by kernel_rfl) (by kernel_rfl) (by kernel_rfl) (fun _ _ _ h => h) (Or.inl ⟨by rfl, ?_⟩) (by assumption) ?_
          rotate_left
          · (intro w9 hS9; (try dsimp only at hS9); go_simp); all_goals (with_reducible rfl)
          (try simp only [Act.put, List.setIfInBounds_toArray, List.set_cons_zero, List.set_cons_succ])
          refine wpAnyH_take (i := 15) (oi := { dst := some 26, op := Op.move (Operand.tmp 25), type := 4, pos := "outright.go:28", after := #[{ on := 14, ground := Ground.data }, { on := 7, ground := Ground.chain }], guard := none }) (v := ?_) rfl (by kernel_rfl) (by kernel_rfl) (by kernel_rfl) (fun _ _ _ h => h) (Or.inl ⟨by rfl, ?_⟩) (by assumption) ?_
          rotate_left
          · (intro w9 hS9; (try dsimp only at hS9); go_simp); all_goals (with_reducible rfl)
          (try simp only [Act.put, List.setIfInBounds_toArray, List.set_cons_zero, List.set_cons_succ])
          refine wpAnyH_take (i := 16) (oi := { dst := some 27, op := Op.move (Operand.tmp 7), type := 3, pos := "outright.go:28", after := #[{ on := 15, ground := Ground.guard }], guard := some (15, false) }) (v := ?_) rfl (by kernel_rfl) (by kernel_rfl) (by kernel_rfl) (fun _ _ _ h => h) (Or.inl ⟨by rfl, ?_⟩) (by assumption) ?_
          rotate_left
          · (intro w9 hS9; (try dsimp only at hS9); go_simp); all_goals (with_reducible rfl)
          (try simp only [Act.put, List.setIfInBounds_toArray, List.set_cons_zero, List.set_cons_succ])
          refine wpAnyH_take (i := 17) (oi := { dst := some 28, op := Op.binOp BinOp.lss 3 (Operand.tmp 27) (Operand.const (Value.int IntKind.i64 128)) 3, type := 4, pos := "outright.go:28", after := #[{ on := 16, ground := Ground.data }, { on := 15, ground := Ground.guard }], guard := some (15, false) }) (v := ?_) rfl (by kernel_rfl) (by kernel_rfl) (by kernel_rfl) (fun _ _ _ h => h) (Or.inl ⟨by rfl, ?_⟩) (by assumption) ?_
          rotate_left
          · (intro w9 hS9; (try dsimp only at hS9); go_simp); all_goals (with_reducible rfl)
          (try simp only [Act.put, List.setIfInBounds_toArray, List.set_cons_zero, List.set_cons_succ])
          refine wpAnyH_take (i := 18) (oi := { dst := some 29, op := Op.move (Operand.tmp 28), type := 4, pos := "outright.go:28", after := #[{ on := 17, ground := Ground.data }, { on := 15, ground := Ground.chain }, { on := 15, ground := Ground.guard }], guard := some (15, false) }) (v := ?_) rfl (by kernel_rfl) (by kernel_rfl) (by kernel_rfl) (fun _ _ _ h => h) (Or.inl ⟨by rfl, ?_⟩) (by assumption) ?_
          rotate_left
          · (intro w9 hS9; (try dsimp only at hS9); go_simp); all_goals (with_reducible rfl)
          (try simp only [Act.put, List.setIfInBounds_toArray, List.set_cons_zero, List.set_cons_succ])
          refine wpAnyH_take (i := 19) (oi := { dst := some 30, op := Op.load 24 (Operand.tmp 3), type := 24, pos := "outright.go:28", after := #[{ on := 18, ground := Ground.guard }], guard := some (18, true) }) (v := ?_) rfl (by kernel_rfl) (by kernel_rfl) (by kernel_rfl) (fun _ _ _ h => h) (Or.inl ⟨by rfl, ?_⟩) (by assumption) ?_
          rotate_left
          · (intro w9 hS9; (try dsimp only at hS9); go_simp); all_goals (with_reducible rfl)
          (try simp only [Act.put, List.setIfInBounds_toArray, List.set_cons_zero, List.set_cons_succ])
          refine wpAnyH_take (i := 20) (oi := { dst := some 31, op := Op.move (Operand.tmp 7), type := 3, pos := "outright.go:28", after := #[{ on := 18, ground := Ground.guard }], guard := some (18, true) }) (v := ?_) rfl (by kernel_rfl) (by kernel_rfl) (by kernel_rfl) (fun _ _ _ h => h) (Or.inl ⟨by rfl, ?_⟩) (by assumption) ?_
          rotate_left
          · (intro w9 hS9; (try dsimp only at hS9); go_simp); all_goals (with_reducible rfl)
          (try simp only [Act.put, List.setIfInBounds_toArray, List.set_cons_zero, List.set_cons_succ])
          refine wpAnyH_take (i := 21) (oi := { dst := some 32, op := Op.binOp BinOp.add 3 (Operand.tmp 31) (Operand.const (Value.int IntKind.i64 1)) 3, type := 3, pos := "outright.go:28", after := #[{ on := 20, ground := Ground.data }, { on := 18, ground := Ground.guard }], guard := some (18, true) }) (v := ?_) rfl (by kernel_rfl) (by kernel_rfl) (by kernel_rfl) (fun _ _ _ h => h) (Or.inl ⟨by rfl, ?_⟩) (by assumption) ?_
          rotate_left
          · (intro w9 hS9; (try dsimp only at hS9); go_simp); all_goals (with_reducible rfl)
          (try simp only [Act.put, List.setIfInBounds_toArray, List.set_cons_zero, List.set_cons_succ])
          refine wpAnyH_take (i := 23) (oi := { dst := some 34, op := Op.load 24 (Operand.tmp 4), type := 24, pos := "outright.go:28", after := #[{ on := 18, ground := Ground.guard }], guard := some (18, true) }) (v := ?_) rfl (by kernel_rfl) (by kernel_rfl) (by kernel_rfl) (fun _ _ _ h => h) (Or.inl ⟨by rfl, ?_⟩) (by assumption) ?_
          rotate_left
          · (intro w9 hS9; (try dsimp only at hS9); go_simp); all_goals (with_reducible rfl)
          (try simp only [Act.put, List.setIfInBounds_toArray, List.set_cons_zero, List.set_cons_succ])
          refine wpAnyH_take (i := 24) (oi := { dst := some 35, op := Op.move (Operand.tmp 7), type := 3, pos := "outright.go:28", after := #[{ on := 18, ground := Ground.guard }], guard := some (18, true) }) (v := ?_) rfl (by kernel_rfl) (by kernel_rfl) (by kernel_rfl) (fun _ _ _ h => h) (Or.inl ⟨by rfl, ?_⟩) (by assumption) ?_
          rotate_left
          · (intro w9 hS9; (try dsimp only at hS9); go_simp); all_goals (with_reducible rfl)
          (try simp only [Act.put, List.setIfInBounds_toArray, List.set_cons_zero, List.set_cons_succ])
          refine wpAnyH_take (i := 25) (oi := { dst := some 36, op := Op.binOp BinOp.add 3 (Operand.tmp 35) (Operand.const (Value.int IntKind.i64 1)) 3, type := 3, pos := "outright.go:28", after := #[{ on := 24, ground := Ground.data }, { on := 18, ground := Ground.guard }], guard := some (18, true) }) (v := ?_) rfl (by kernel_rfl) (by kernel_rfl) (by kernel_rfl) (fun _ _ _ h => h) (Or.inl ⟨by rfl, ?_⟩) (by assumption) ?_
          rotate_left
          · (intro w9 hS9; (try dsimp only at hS9); go_simp); all_goals (with_reducible rfl)
          (try simp only [Act.put, List.setIfInBounds_toArray, List.set_cons_zero, List.set_cons_succ])
          refine wpAnyH_ready (rs := [22]) (by kernel_rfl) (by simp) ?_
          refine AllReadyH.cons (o := { dst := some 33, op := Op.call { callee := Callee.value (Operand.func 39), args := #[Operand.tmp 30, Operand.tmp 32], argTypes := #[24, 3] }, type := 24, pos := "outright.go:28", after := #[{ on := 19, ground := Ground.data }, { on := 21, ground := Ground.data }, { on := 18, ground := Ground.chain }, { on := 18, ground := Ground.guard }], guard := some (18, true) }) rfl (fun K hK => ?_) ?_
          · go_simp
            with_reducible refine (C4.out _).mono ?_
            rintro e w1 ⟨rfl, hb1⟩
            have hS1 := HN.out _ _ (by assumption) hb1
            clear hb1
            (try go_wp2_with fail)
            refine hK.out _ _ ?_ (fun hHeld => ?_)
            · exact hS1
            clear hK K
            (try simp only [Act.put, List.setIfInBounds_toArray, List.set_cons_zero, List.set_cons_succ])
            refine wpAnyH_ready (rs := [26]) (by kernel_rfl) (by simp) ?_
            refine AllReadyH.cons (o := { dst := some 37, op := Op.call { callee := Callee.value (Operand.func 39), args := #[Operand.tmp 34, Operand.tmp 36], argTypes := #[24, 3] }, type := 24, pos := "outright.go:28", after := #[{ on := 23, ground := Ground.data }, { on := 25, ground := Ground.data }, { on := 22, ground := Ground.chain }, { on := 18, ground := Ground.guard }], guard := some (18, true) }) rfl (fun K hK => ?_) ?_
            · go_simp
              with_reducible refine (C5.out _).mono ?_
              rintro e w1 ⟨rfl, hb1⟩
              have hS1 := HN.out _ _ (by assumption) hb1
              clear hb1
              (try go_wp2_with fail)
              refine hK.out _ _ ?_ (fun hHeld => ?_)
              · exact hS1
              clear hK K
              (try simp only [Act.put, List.setIfInBounds_toArray, List.set_cons_zero, List.set_cons_succ])
              refine wpAnyH_take (i := 27) (oi := { dst := some 38, op := Op.binOp BinOp.eql 24 (Operand.tmp 33) (Operand.tmp 37) 24, type := 4, pos := "outright.go:28", after := #[{ on := 22, ground := Ground.data }, { on := 26, ground := Ground.data }, { on := 18, ground := Ground.guard }], guard := some (18, true) }) (v := ?_) rfl (by kernel_rfl) (by kernel_rfl) (by kernel_rfl) (fun _ _ _ h => h) (Or.inl ⟨by rfl, ?_⟩) (by assumption) ?_
              rotate_left
              · (intro w9 hS9; (try dsimp only at hS9); go_simp); all_goals (with_reducible rfl)
              (try simp only [Act.put, List.setIfInBounds_toArray, List.set_cons_zero, List.set_cons_succ])
              refine wpAnyH_take (i := 28) (oi := { dst := some 39, op := Op.pick (Operand.tmp 29) (Operand.tmp 38) (Operand.const (Value.bool false)), type := 4, pos := "outright.go:28", after := #[{ on := 18, ground := Ground.data }, { on := 27, ground := Ground.data }, { on := 15, ground := Ground.guard }], guard := some (15, false) }) (v := ?_) rfl (by kernel_rfl) (by kernel_rfl) (by kernel_rfl) (fun _ _ _ h => h) (Or.inl ⟨by rfl, ?_⟩) (by assumption) ?_
              rotate_left
              · (intro w9 hS9; (try dsimp only at hS9); go_simp); all_goals (with_reducible rfl)
              (try simp only [Act.put, List.setIfInBounds_toArray, List.set_cons_zero, List.set_cons_succ])
              refine wpAnyH_take (i := 29) (oi := { dst := some 40, op := Op.pick (Operand.tmp 26) (Operand.const (Value.bool true)) (Operand.tmp 39), type := 4, pos := "outright.go:28", after := #[{ on := 15, ground := Ground.data }, { on := 28, ground := Ground.data }], guard := none }) (v := ?_) rfl (by kernel_rfl) (by kernel_rfl) (by kernel_rfl) (fun _ _ _ h => h) (Or.inl ⟨by rfl, ?_⟩) (by assumption) ?_
              rotate_left
              · (intro w9 hS9; (try dsimp only at hS9); go_simp); all_goals (with_reducible rfl)
              (try simp only [Act.put, List.setIfInBounds_toArray, List.set_cons_zero, List.set_cons_succ])
              refine wpAnyH_done (by kernel_rfl) (NoPanic.normal ?_) _
              go_wp2_with fail
              go_meet
              case rel => exact ⟨rfl, And.left (by assumption)⟩
            exact AllReadyH.nil
          exact AllReadyH.nil
        exact AllReadyH.nil
      exact AllReadyH.nil
    · clear HC HIN
      have HNk : ∀ W, Boxes w W [(w.heap.size + 1, 24, bh, bl), (w.heap.size, 24, ah, al)] → (Boxes w W [(w.heap.size + 1, 24, bh, bl), (w.heap.size, 24, ah, al)] ∧ (W.cell? ⟨w.heap.size + 1, 0, none⟩ = some (.int .u64 bh) ∧ W.cell? ⟨w.heap.size + 1, 1, none⟩ = some (.int .u64 bl)) ∧ (W.cell? ⟨w.heap.size, 0, none⟩ = some (.int .u64 ah) ∧ W.cell? ⟨w.heap.size, 1, none⟩ = some (.int .u64 al))) := fun W h => ⟨h, two_cells (h.all (w.heap.size + 1, 24, bh, bl) (by simp)), two_cells (h.all (w.heap.size, 24, ah, al) (by simp))⟩
      have HN : Hid (∀ W V, (Boxes w W [(w.heap.size + 1, 24, bh, bl), (w.heap.size, 24, ah, al)] ∧ (W.cell? ⟨w.heap.size + 1, 0, none⟩ = some (.int .u64 bh) ∧ W.cell? ⟨w.heap.size + 1, 1, none⟩ = some (.int .u64 bl)) ∧ (W.cell? ⟨w.heap.size, 0, none⟩ = some (.int .u64 ah) ∧ W.cell? ⟨w.heap.size, 1, none⟩ = some (.int .u64 al))) → Below W.heap.size W V → (Boxes w V [(w.heap.size + 1, 24, bh, bl), (w.heap.size, 24, ah, al)] ∧ (V.cell? ⟨w.heap.size + 1, 0, none⟩ = some (.int .u64 bh) ∧ V.cell? ⟨w.heap.size + 1, 1, none⟩ = some (.int .u64 bl)) ∧ (V.cell? ⟨w.heap.size, 0, none⟩ = some (.int .u64 ah) ∧ V.cell? ⟨w.heap.size, 1, none⟩ = some (.int .u64 al)))) := fun W V h hb => HNk _ (h.1.next hb)
      have HS0 : Hid (Boxes w v1.drew [(w.heap.size + 1, 24, bh, bl), (w.heap.size, 24, ah, al)] ∧ (v1.drew.cell? ⟨w.heap.size + 1, 0, none⟩ = some (.int .u64 bh) ∧ v1.drew.cell? ⟨w.heap.size + 1, 1, none⟩ = some (.int .u64 bl)) ∧ (v1.drew.cell? ⟨w.heap.size, 0, none⟩ = some (.int .u64 ah) ∧ v1.drew.cell? ⟨w.heap.size, 1, none⟩ = some (.int .u64 al))) := HNk _ (HY1.out.next ⟨rfl, rfl, rfl, Nat.le_refl _, fun _ _ => rfl⟩)
      have HF : Hid (∀ W, (Boxes w W [(w.heap.size + 1, 24, bh, bl), (w.heap.size, 24, ah, al)] ∧ (W.cell? ⟨w.heap.size + 1, 0, none⟩ = some (.int .u64 bh) ∧ W.cell? ⟨w.heap.size + 1, 1, none⟩ = some (.int .u64 bl)) ∧ (W.cell? ⟨w.heap.size, 0, none⟩ = some (.int .u64 ah) ∧ W.cell? ⟨w.heap.size, 1, none⟩ = some (.int .u64 al))) → Below w.heap.size w W) := fun W h => h.1.below
      clear HNk r0 s0 r1 s1
      refine wp_region_noPanic ?_
      refine wp_region_held_drew (S := fun W => Boxes w W [(w.heap.size + 1, 24, bh, bl), (w.heap.size, 24, ah, al)] ∧ (W.cell? ⟨w.heap.size + 1, 0, none⟩ = some (.int .u64 bh) ∧ W.cell? ⟨w.heap.size + 1, 1, none⟩ = some (.int .u64 bl)) ∧ (W.cell? ⟨w.heap.size, 0, none⟩ = some (.int .u64 ah) ∧ W.cell? ⟨w.heap.size, 1, none⟩ = some (.int .u64 al))) (by kernel_rfl) ?_ (fun hHeld => ?_)
      · exact HS0.out
      refine wpAnyH_take (i := 0) (oi := { dst := some 11, op := Op.load 24 (Operand.tmp 3), type := 24, pos := "outright.go:28", after := #[], guard := none }) (v := ?_) rfl (by kernel_rfl) (by kernel_rfl) (by kernel_rfl) (fun _ _ _ h => h) (Or.inl ⟨by rfl, ?_⟩) (by assumption) ?_
      rotate_left
      · (intro w9 hS9; (try dsimp only at hS9); go_simp); all_goals (with_reducible rfl)
      (try simp only [Act.put, List.setIfInBounds_toArray, List.set_cons_zero, List.set_cons_succ])
      refine wpAnyH_take (i := 1) (oi := { dst := some 12, op := Op.move (Operand.tmp 7), type := 3, pos := "outright.go:28", after := #[], guard := none }) (v := ?_) rfl (by kernel_rfl) (by kernel_rfl) (by kernel_rfl) (fun _ _ _ h => h) (Or.inl ⟨by rfl, ?_⟩) (by assumption) ?_
      rotate_left
      · (intro w9 hS9; (try dsimp only at hS9); go_simp); all_goals (with_reducible rfl)
      (try simp only [Act.put, List.setIfInBounds_toArray, List.set_cons_zero, List.set_cons_succ])
      refine wpAnyH_take (i := 3) (oi := { dst := some 14, op := Op.load 24 (Operand.tmp 4), type := 24, pos := "outright.go:28", after := #[], guard := none }) (v := ?_) rfl (by kernel_rfl) (by kernel_rfl) (by kernel_rfl) (fun _ _ _ h => h) (Or.inl ⟨by rfl, ?_⟩) (by assumption) ?_
      rotate_left
      · (intro w9 hS9; (try dsimp only at hS9); go_simp); all_goals (with_reducible rfl)
      (try simp only [Act.put, List.setIfInBounds_toArray, List.set_cons_zero, List.set_cons_succ])
      refine wpAnyH_take (i := 4) (oi := { dst := some 15, op := Op.move (Operand.tmp 7), type := 3, pos := "outright.go:28", after := #[], guard := none }) (v := ?_) rfl (by kernel_rfl) (by kernel_rfl) (by kernel_rfl) (fun _ _ _ h => h) (Or.inl ⟨by rfl, ?_⟩) (by assumption) ?_
      rotate_left
      · (intro w9 hS9; (try dsimp only at hS9); go_simp); all_goals (with_reducible rfl)
      (try simp only [Act.put, List.setIfInBounds_toArray, List.set_cons_zero, List.set_cons_succ])
      refine wpAnyH_ready (rs := [2]) (by kernel_rfl) (by simp) ?_
      refine AllReadyH.cons (o := { dst := some 13, op := Op.call { callee := Callee.value (Operand.func 39), args := #[Operand.tmp 11, Operand.tmp 12], argTypes := #[24, 3] }, type := 24, pos := "outright.go:28", after := #[{ on := 0, ground := Ground.data }, { on := 1, ground := Ground.data }], guard := none }) rfl (fun K hK => ?_) ?_
      · go_simp
        with_reducible refine (C2.out _).mono ?_
        rintro e w1 ⟨rfl, hb1⟩
        have hS1 := HN.out _ _ (by assumption) hb1
        clear hb1
        (try go_wp2_with fail)
        refine hK.out _ _ ?_ (fun hHeld => ?_)
        · exact hS1
        clear hK K
        (try simp only [Act.put, List.setIfInBounds_toArray, List.set_cons_zero, List.set_cons_succ])
        refine wpAnyH_ready (rs := [5]) (by kernel_rfl) (by simp) ?_
        refine AllReadyH.cons (o := { dst := some 16, op := Op.call { callee := Callee.value (Operand.func 39), args := #[Operand.tmp 14, Operand.tmp 15], argTypes := #[24, 3] }, type := 24, pos := "outright.go:28", after := #[{ on := 3, ground := Ground.data }, { on := 4, ground := Ground.data }, { on := 2, ground := Ground.chain }], guard := none }) rfl (fun K hK => ?_) ?_
        · go_simp
          with_reducible refine (C3.out _).mono ?_
          rintro e w1 ⟨rfl, hb1⟩
          have hS1 := HN.out _ _ (by assumption) hb1
          clear hb1
          (try go_wp2_with fail)
          refine hK.out _ _ ?_ (fun hHeld => ?_)
          · exact hS1
          clear hK K
          (try simp only [Act.put, List.setIfInBounds_toArray, List.set_cons_zero, List.set_cons_succ])
          refine wpAnyH_take (i := 6) (oi := { dst := some 17, op := Op.binOp BinOp.neq 24 (Operand.tmp 13) (Operand.tmp 16) 24, type := 4, pos := "outright.go:28", after := #[{ on := 2, ground := Ground.data }, { on := 5, ground := Ground.data }], guard := none }) (v := ?_) rfl (by kernel_rfl) (by kernel_rfl) (by kernel_rfl) (fun _ _ _ h => h) (Or.inl ⟨by rfl, ?_⟩) (by assumption) ?_
          rotate_left
          · (intro w9 hS9; (try dsimp only at hS9); go_simp); all_goals (with_reducible rfl)
          (try simp only [Act.put, List.setIfInBounds_toArray, List.set_cons_zero, List.set_cons_succ])
          refine wpAnyH_take (i := 7) (oi := { dst := some 18, op := Op.move (Operand.tmp 17), type := 4, pos := "outright.go:28", after := #[{ on := 6, ground := Ground.data }, { on := 5, ground := Ground.chain }], guard := none }) (v := ?_) rfl (by kernel_rfl) (by kernel_rfl) (by kernel_rfl) (fun _ _ _ h => h) (Or.inl ⟨by rfl, ?_⟩) (by assumption) ?_
          rotate_left
          · (intro w9 hS9; (try dsimp only at hS9); go_simp); all_goals (with_reducible rfl)
          (try simp only [Act.put, List.setIfInBounds_toArray, List.set_cons_zero, List.set_cons_succ])
          refine wpAnyH_take (i := 8) (oi := { dst := some 19, op := Op.move (Operand.tmp 7), type := 3, pos := "outright.go:28", after := #[{ on := 7, ground := Ground.guard }], guard := some (7, false) }) (v := ?_) rfl (by kernel_rfl) (by kernel_rfl) (by kernel_rfl) (fun _ _ _ h => h) (Or.inl ⟨by rfl, ?_⟩) (by assumption) ?_
          rotate_left
          · (intro w9 hS9; (try dsimp only at hS9); go_simp); all_goals (with_reducible rfl)
          (try simp only [Act.put, List.setIfInBounds_toArray, List.set_cons_zero, List.set_cons_succ])
          refine wpAnyH_take (i := 9) (oi := { dst := some 20, op := Op.binOp BinOp.lss 3 (Operand.tmp 19) (Operand.const (Value.int IntKind.i64 128)) 3, type := 4, pos := "outright.go:28", after := #[{ on := 8, ground := Ground.data }, { on := 7, ground := Ground.guard }], guard := some (7, false) }) (v := ?_) rfl (by kernel_rfl) (by kernel_rfl) (by kernel_rfl) (fun _ _ _ h => h) (Or.inl ⟨by rfl, ?_⟩) (by assumption) ?_
          rotate_left
          · (intro w9 hS9; (try dsimp only at hS9); go_simp); all_goals (with_reducible rfl)
          (try simp only [Act.put, List.setIfInBounds_toArray, List.set_cons_zero, List.set_cons_succ])
          refine wpAnyH_take (i := 10) (oi := { dst := some 21, op := Op.load 24 (Operand.tmp 3), type := 24, pos := "outright.go:28", after := #[{ on := 7, ground := Ground.guard }], guard := some (7, false) }) (v := ?_) rfl (by kernel_rfl) (by kernel_rfl) (by kernel_rfl) (fun _ _ _ h => h) (Or.inl ⟨by rfl, ?_⟩) (by assumption) ?_
          rotate_left
          · (intro w9 hS9; (try dsimp only at hS9); go_simp); all_goals (with_reducible rfl)
          (try simp only [Act.put, List.setIfInBounds_toArray, List.set_cons_zero, List.set_cons_succ])
          refine wpAnyH_take (i := 11) (oi := { dst := some 22, op := Op.load 24 (Operand.tmp 4), type := 24, pos := "outright.go:28", after := #[{ on := 7, ground := Ground.guard }], guard := some (7, false) }) (v := ?_) rfl (by kernel_rfl) (by kernel_rfl) (by kernel_rfl) (fun _ _ _ h => h) (Or.inl ⟨by rfl, ?_⟩) (by assumption) ?_
          rotate_left
          · (intro w9 hS9; (try dsimp only at hS9); go_simp); all_goals (with_reducible rfl)
          (try simp only [Act.put, List.setIfInBounds_toArray, List.set_cons_zero, List.set_cons_succ])
          refine wpAnyH_take (i := 12) (oi := { dst := some 23, op := Op.binOp BinOp.eql 24 (Operand.tmp 21) (Operand.tmp 22) 24, type := 4, pos := "outright.go:28", after := #[{ on := 10, ground := Ground.data }, { on := 11, ground := Ground.data }, { on := 7, ground := Ground.guard }], guard := some (7, false) }) (v := ?_) rfl (by kernel_rfl) (by kernel_rfl) (by kernel_rfl) (fun _ _ _ h => h) (Or.inl ⟨by rfl, ?_⟩) (by assumption) ?_
          rotate_left
          · (intro w9 hS9; (try dsimp only at hS9); go_simp); all_goals (with_reducible rfl)
          (try simp only [Act.put, List.setIfInBounds_toArray, List.set_cons_zero, List.set_cons_succ])
          refine wpAnyH_take (i := 13) (oi := { dst := some 24, op := Op.binOp BinOp.eql 4 (Operand.tmp 20) (Operand.tmp 23) 4, type := 4, pos := "outright.go:28", after := #[{ on := 9, ground := Ground.data }, { on := 12, ground := Ground.data }, { on := 7, ground := Ground.guard }], guard := some (7, false) }) (v := ?_) rfl (by kernel_rfl) (by kernel_rfl) (by kernel_rfl) (fun _ _ _ h => h) (Or.inl ⟨by rfl, ?_⟩) (by assumption) ?_
          rotate_left
          · (intro w9 hS9; (try dsimp only at hS9); go_simp); all_goals (with_reducible rfl)
          (try simp only [Act.put, List.setIfInBounds_toArray, List.set_cons_zero, List.set_cons_succ])
          refine wpAnyH_take (i := 14) (oi := { dst := some 25, op := Op.pick (Operand.tmp 18) (Operand.const (Value.bool true)) (Operand.tmp 24), type := 4, pos := "outright.go:28", after := #[{ on := 7, ground := Ground.data }, { on := 13, ground := Ground.data }], guard := none }) (v := ?_) rfl (by kernel_rfl) (by kernel_rfl) (by kernel_rfl) (fun _ _ _ h => h) (Or.inl ⟨by rfl, ?_⟩) (by assumption) ?_
          rotate_left
          · (intro w9 hS9; (try dsimp only at hS9); go_simp); all_goals (with_reducible rfl)
          (try simp only [Act.put, List.setIfInBounds_toArray, List.set_cons_zero, List.set_cons_succ])
          refine wpAnyH_take (i := 15) (oi := { dst := some 26, op := Op.move (Operand.tmp 25), type := 4, pos := "outright.go:28", after := #[{ on := 14, ground := Ground.data }, { on := 7, ground := Ground.chain }], guard := none }) (v := ?_) rfl (by kernel_rfl) (by kernel_rfl) (by kernel_rfl) (fun _ _ _ h => h) (Or.inl ⟨by rfl, ?_⟩) (by assumption) ?_
          rotate_left
          · (intro w9 hS9; (try dsimp only at hS9); go_simp); all_goals (with_reducible rfl)
          (try simp only [Act.put, List.setIfInBounds_toArray, List.set_cons_zero, List.set_cons_succ])
          refine wpAnyH_take (i := 16) (oi := { dst := some 27, op := Op.move (Operand.tmp 7), type := 3, pos := "outright.go:28", after := #[{ on := 15, ground := Ground.guard }], guard := some (15, false) }) (v := ?_) rfl (by kernel_rfl) (by kernel_rfl) (by kernel_rfl) (fun _ _ _ h => h) (Or.inl ⟨by rfl, ?_⟩) (by assumption) ?_
          rotate_left
          · (intro w9 hS9; (try dsimp only at hS9); go_simp); all_goals (with_reducible rfl)
          (try simp only [Act.put, List.setIfInBounds_toArray, List.set_cons_zero, List.set_cons_succ])
          refine wpAnyH_take (i := 17) (oi := { dst := some 28, op := Op.binOp BinOp.lss 3 (Operand.tmp 27) (Operand.const (Value.int IntKind.i64 128)) 3, type := 4, pos := "outright.go:28", after := #[{ on := 16, ground := Ground.data }, { on := 15, ground := Ground.guard }], guard := some (15, false) }) (v := ?_) rfl (by kernel_rfl) (by kernel_rfl) (by kernel_rfl) (fun _ _ _ h => h) (Or.inl ⟨by rfl, ?_⟩) (by assumption) ?_
          rotate_left
          · (intro w9 hS9; (try dsimp only at hS9); go_simp); all_goals (with_reducible rfl)
          (try simp only [Act.put, List.setIfInBounds_toArray, List.set_cons_zero, List.set_cons_succ])
          refine wpAnyH_take (i := 18) (oi := { dst := some 29, op := Op.move (Operand.tmp 28), type := 4, pos := "outright.go:28", after := #[{ on := 17, ground := Ground.data }, { on := 15, ground := Ground.chain }, { on := 15, ground := Ground.guard }], guard := some (15, false) }) (v := ?_) rfl (by kernel_rfl) (by kernel_rfl) (by kernel_rfl) (fun _ _ _ h => h) (Or.inl ⟨by rfl, ?_⟩) (by assumption) ?_
          rotate_left
          · (intro w9 hS9; (try dsimp only at hS9); go_simp); all_goals (with_reducible rfl)
          (try simp only [Act.put, List.setIfInBounds_toArray, List.set_cons_zero, List.set_cons_succ])
          refine wpAnyH_take (i := 19) (oi := { dst := some 30, op := Op.load 24 (Operand.tmp 3), type := 24, pos := "outright.go:28", after := #[{ on := 18, ground := Ground.guard }], guard := some (18, true) }) (v := ?_) rfl (by kernel_rfl) (by kernel_rfl) (by kernel_rfl) (fun _ _ _ h => h) (Or.inl ⟨by rfl, ?_⟩) (by assumption) ?_
          rotate_left
          · (intro w9 hS9; (try dsimp only at hS9); go_simp); all_goals (with_reducible rfl)
          (try simp only [Act.put, List.setIfInBounds_toArray, List.set_cons_zero, List.set_cons_succ])
          refine wpAnyH_take (i := 20) (oi := { dst := some 31, op := Op.move (Operand.tmp 7), type := 3, pos := "outright.go:28", after := #[{ on := 18, ground := Ground.guard }], guard := some (18, true) }) (v := ?_) rfl (by kernel_rfl) (by kernel_rfl) (by kernel_rfl) (fun _ _ _ h => h) (Or.inl ⟨by rfl, ?_⟩) (by assumption) ?_
          rotate_left
          · (intro w9 hS9; (try dsimp only at hS9); go_simp); all_goals (with_reducible rfl)
          (try simp only [Act.put, List.setIfInBounds_toArray, List.set_cons_zero, List.set_cons_succ])
          refine wpAnyH_take (i := 21) (oi := { dst := some 32, op := Op.binOp BinOp.add 3 (Operand.tmp 31) (Operand.const (Value.int IntKind.i64 1)) 3, type := 3, pos := "outright.go:28", after := #[{ on := 20, ground := Ground.data }, { on := 18, ground := Ground.guard }], guard := some (18, true) }) (v := ?_) rfl (by kernel_rfl) (by kernel_rfl) (by kernel_rfl) (fun _ _ _ h => h) (Or.inl ⟨by rfl, ?_⟩) (by assumption) ?_
          rotate_left
          · (intro w9 hS9; (try dsimp only at hS9); go_simp); all_goals (with_reducible rfl)
          (try simp only [Act.put, List.setIfInBounds_toArray, List.set_cons_zero, List.set_cons_succ])
          refine wpAnyH_take (i := 23) (oi := { dst := some 34, op := Op.load 24 (Operand.tmp 4), type := 24, pos := "outright.go:28", after := #[{ on := 18, ground := Ground.guard }], guard := some (18, true) }) (v := ?_) rfl (by kernel_rfl) (by kernel_rfl) (by kernel_rfl) (fun _ _ _ h => h) (Or.inl ⟨by rfl, ?_⟩) (by assumption) ?_
          rotate_left
          · (intro w9 hS9; (try dsimp only at hS9); go_simp); all_goals (with_reducible rfl)
          (try simp only [Act.put, List.setIfInBounds_toArray, List.set_cons_zero, List.set_cons_succ])
          refine wpAnyH_take (i := 24) (oi := { dst := some 35, op := Op.move (Operand.tmp 7), type := 3, pos := "outright.go:28", after := #[{ on := 18, ground := Ground.guard }], guard := some (18, true) }) (v := ?_) rfl (by kernel_rfl) (by kernel_rfl) (by kernel_rfl) (fun _ _ _ h => h) (Or.inl ⟨by rfl, ?_⟩) (by assumption) ?_
          rotate_left
          · (intro w9 hS9; (try dsimp only at hS9); go_simp); all_goals (with_reducible rfl)
          (try simp only [Act.put, List.setIfInBounds_toArray, List.set_cons_zero, List.set_cons_succ])
          refine wpAnyH_take (i := 25) (oi := { dst := some 36, op := Op.binOp BinOp.add 3 (Operand.tmp 35) (Operand.const (Value.int IntKind.i64 1)) 3, type := 3, pos := "outright.go:28", after := #[{ on := 24, ground := Ground.data }, { on := 18, ground := Ground.guard }], guard := some (18, true) }) (v := ?_) rfl (by kernel_rfl) (by kernel_rfl) (by kernel_rfl) (fun _ _ _ h => h) (Or.inl ⟨by rfl, ?_⟩) (by assumption) ?_
          rotate_left
          · (intro w9 hS9; (try dsimp only at hS9); go_simp); all_goals (with_reducible rfl)
          (try simp only [Act.put, List.setIfInBounds_toArray, List.set_cons_zero, List.set_cons_succ])
          refine wpAnyH_ready (rs := [22]) (by kernel_rfl) (by simp) ?_
          refine AllReadyH.cons (o := { dst := some 33, op := Op.call { callee := Callee.value (Operand.func 39), args := #[Operand.tmp 30, Operand.tmp 32], argTypes := #[24, 3] }, type := 24, pos := "outright.go:28", after := #[{ on := 19, ground := Ground.data }, { on := 21, ground := Ground.data }, { on := 18, ground := Ground.chain }, { on := 18, ground := Ground.guard }], guard := some (18, true) }) rfl (fun K hK => ?_) ?_
          · go_simp
            with_reducible refine (C4.out _).mono ?_
            rintro e w1 ⟨rfl, hb1⟩
            have hS1 := HN.out _ _ (by assumption) hb1
            clear hb1
            (try go_wp2_with fail)
            refine hK.out _ _ ?_ (fun hHeld => ?_)
            · exact hS1
            clear hK K
            (try simp only [Act.put, List.setIfInBounds_toArray, List.set_cons_zero, List.set_cons_succ])
            refine wpAnyH_ready (rs := [26]) (by kernel_rfl) (by simp) ?_
            refine AllReadyH.cons (o := { dst := some 37, op := Op.call { callee := Callee.value (Operand.func 39), args := #[Operand.tmp 34, Operand.tmp 36], argTypes := #[24, 3] }, type := 24, pos := "outright.go:28", after := #[{ on := 23, ground := Ground.data }, { on := 25, ground := Ground.data }, { on := 22, ground := Ground.chain }, { on := 18, ground := Ground.guard }], guard := some (18, true) }) rfl (fun K hK => ?_) ?_
            · go_simp
              with_reducible refine (C5.out _).mono ?_
              rintro e w1 ⟨rfl, hb1⟩
              have hS1 := HN.out _ _ (by assumption) hb1
              clear hb1
              (try go_wp2_with fail)
              refine hK.out _ _ ?_ (fun hHeld => ?_)
              · exact hS1
              clear hK K
              (try simp only [Act.put, List.setIfInBounds_toArray, List.set_cons_zero, List.set_cons_succ])
              refine wpAnyH_take (i := 27) (oi := { dst := some 38, op := Op.binOp BinOp.eql 24 (Operand.tmp 33) (Operand.tmp 37) 24, type := 4, pos := "outright.go:28", after := #[{ on := 22, ground := Ground.data }, { on := 26, ground := Ground.data }, { on := 18, ground := Ground.guard }], guard := some (18, true) }) (v := ?_) rfl (by kernel_rfl) (by kernel_rfl) (by kernel_rfl) (fun _ _ _ h => h) (Or.inl ⟨by rfl, ?_⟩) (by assumption) ?_
              rotate_left
              · (intro w9 hS9; (try dsimp only at hS9); go_simp); all_goals (with_reducible rfl)
              (try simp only [Act.put, List.setIfInBounds_toArray, List.set_cons_zero, List.set_cons_succ])
              refine wpAnyH_take (i := 28) (oi := { dst := some 39, op := Op.pick (Operand.tmp 29) (Operand.tmp 38) (Operand.const (Value.bool false)), type := 4, pos := "outright.go:28", after := #[{ on := 18, ground := Ground.data }, { on := 27, ground := Ground.data }, { on := 15, ground := Ground.guard }], guard := some (15, false) }) (v := ?_) rfl (by kernel_rfl) (by kernel_rfl) (by kernel_rfl) (fun _ _ _ h => h) (Or.inl ⟨by rfl, ?_⟩) (by assumption) ?_
              rotate_left
              · (intro w9 hS9; (try dsimp only at hS9); go_simp); all_goals (with_reducible rfl)
              (try simp only [Act.put, List.setIfInBounds_toArray, List.set_cons_zero, List.set_cons_succ])
              refine wpAnyH_take (i := 29) (oi := { dst := some 40, op := Op.pick (Operand.tmp 26) (Operand.const (Value.bool true)) (Operand.tmp 39), type := 4, pos := "outright.go:28", after := #[{ on := 15, ground := Ground.data }, { on := 28, ground := Ground.data }], guard := none }) (v := ?_) rfl (by kernel_rfl) (by kernel_rfl) (by kernel_rfl) (fun _ _ _ h => h) (Or.inl ⟨by rfl, ?_⟩) (by assumption) ?_
              rotate_left
              · (intro w9 hS9; (try dsimp only at hS9); go_simp); all_goals (with_reducible rfl)
              (try simp only [Act.put, List.setIfInBounds_toArray, List.set_cons_zero, List.set_cons_succ])
              refine wpAnyH_done (by kernel_rfl) (NoPanic.normal ?_) _
              go_wp2_with fail
              go_meet
              case rel => exact ⟨rfl, And.left (by assumption)⟩
            exact AllReadyH.nil
          exact AllReadyH.nil
        exact AllReadyH.nil
      exact AllReadyH.nil
    · clear HC HIN
      have HNk : ∀ W, Boxes w W [(w.heap.size + 1, 24, bh, bl), (w.heap.size, 24, ah, al)] → (Boxes w W [(w.heap.size + 1, 24, bh, bl), (w.heap.size, 24, ah, al)] ∧ (W.cell? ⟨w.heap.size + 1, 0, none⟩ = some (.int .u64 bh) ∧ W.cell? ⟨w.heap.size + 1, 1, none⟩ = some (.int .u64 bl)) ∧ (W.cell? ⟨w.heap.size, 0, none⟩ = some (.int .u64 ah) ∧ W.cell? ⟨w.heap.size, 1, none⟩ = some (.int .u64 al))) := fun W h => ⟨h, two_cells (h.all (w.heap.size + 1, 24, bh, bl) (by simp)), two_cells (h.all (w.heap.size, 24, ah, al) (by simp))⟩
      have HN : Hid (∀ W V, (Boxes w W [(w.heap.size + 1, 24, bh, bl), (w.heap.size, 24, ah, al)] ∧ (W.cell? ⟨w.heap.size + 1, 0, none⟩ = some (.int .u64 bh) ∧ W.cell? ⟨w.heap.size + 1, 1, none⟩ = some (.int .u64 bl)) ∧ (W.cell? ⟨w.heap.size, 0, none⟩ = some (.int .u64 ah) ∧ W.cell? ⟨w.heap.size, 1, none⟩ = some (.int .u64 al))) → Below W.heap.size W V → (Boxes w V [(w.heap.size + 1, 24, bh, bl), (w.heap.size, 24, ah, al)] ∧ (V.cell? ⟨w.heap.size + 1, 0, none⟩ = some (.int .u64 bh) ∧ V.cell? ⟨w.heap.size + 1, 1, none⟩ = some (.int .u64 bl)) ∧ (V.cell? ⟨w.heap.size, 0, none⟩ = some (.int .u64 ah) ∧ V.cell? ⟨w.heap.size, 1, none⟩ = some (.int .u64 al)))) := fun W V h hb => HNk _ (h.1.next hb)
      have HS0 : Hid (Boxes w v1.drew [(w.heap.size + 1, 24, bh, bl), (w.heap.size, 24, ah, al)] ∧ (v1.drew.cell? ⟨w.heap.size + 1, 0, none⟩ = some (.int .u64 bh) ∧ v1.drew.cell? ⟨w.heap.size + 1, 1, none⟩ = some (.int .u64 bl)) ∧ (v1.drew.cell? ⟨w.heap.size, 0, none⟩ = some (.int .u64 ah) ∧ v1.drew.cell? ⟨w.heap.size, 1, none⟩ = some (.int .u64 al))) := HNk _ (HY1.out.next ⟨rfl, rfl, rfl, Nat.le_refl _, fun _ _ => rfl⟩)
      have HF : Hid (∀ W, (Boxes w W [(w.heap.size + 1, 24, bh, bl), (w.heap.size, 24, ah, al)] ∧ (W.cell? ⟨w.heap.size + 1, 0, none⟩ = some (.int .u64 bh) ∧ W.cell? ⟨w.heap.size + 1, 1, none⟩ = some (.int .u64 bl)) ∧ (W.cell? ⟨w.heap.size, 0, none⟩ = some (.int .u64 ah) ∧ W.cell? ⟨w.heap.size, 1, none⟩ = some (.int .u64 al))) → Below w.heap.size w W) := fun W h => h.1.below
      clear HNk r0 s0 r1 s1
      refine wp_region_noPanic ?_
      refine wp_region_held_drew (S := fun W => Boxes w W [(w.heap.size + 1, 24, bh, bl), (w.heap.size, 24, ah, al)] ∧ (W.cell? ⟨w.heap.size + 1, 0, none⟩ = some (.int .u64 bh) ∧ W.cell? ⟨w.heap.size + 1, 1, none⟩ = some (.int .u64 bl)) ∧ (W.cell? ⟨w.heap.size, 0, none⟩ = some (.int .u64 ah) ∧ W.cell? ⟨w.heap.size, 1, none⟩ = some (.int .u64 al))) (by kernel_rfl) ?_ (fun hHeld => ?_)
      · exact HS0.out
      refine wpAnyH_take (i := 0) (oi := { dst := some 11, op := Op.load 24 (Operand.tmp 3), type := 24, pos := "outright.go:28", after := #[], guard := none }) (v := ?_) rfl (by kernel_rfl) (by kernel_rfl) (by kernel_rfl) (fun _ _ _ h => h) (Or.inl ⟨by rfl, ?_⟩) (by assumption) ?_
      rotate_left
      · (intro w9 hS9; (try dsimp only at hS9); go_simp); all_goals (with_reducible rfl)
      (try simp only [Act.put, List.setIfInBounds_toArray, List.set_cons_zero, List.set_cons_succ])
      refine wpAnyH_take (i := 1) (oi := { dst := some 12, op := Op.move (Operand.tmp 7), type := 3, pos := "outright.go:28", after := #[], guard := none }) (v := ?_) rfl (by kernel_rfl) (by kernel_rfl) (by kernel_rfl) (fun _ _ _ h => h) (Or.inl ⟨by rfl, ?_⟩) (by assumption) ?_
      rotate_left
      · (intro w9 hS9; (try dsimp only at hS9); go_simp); all_goals (with_reducible rfl)
      (try simp only [Act.put, List.setIfInBounds_toArray, List.set_cons_zero, List.set_cons_succ])
      refine wpAnyH_take (i := 3) (oi := { dst := some 14, op := Op.load 24 (Operand.tmp 4), type := 24, pos := "outright.go:28", after := #[], guard := none }) (v := ?_) rfl (by kernel_rfl) (by kernel_rfl) (by kernel_rfl) (fun _ _ _ h => h) (Or.inl ⟨by rfl, ?_⟩) (by assumption) ?_
      rotate_left
      · (intro w9 hS9; (try dsimp only at hS9); go_simp); all_goals (with_reducible rfl)
      (try simp only [Act.put, List.setIfInBounds_toArray, List.set_cons_zero, List.set_cons_succ])
      refine wpAnyH_take (i := 4) (oi := { dst := some 15, op := Op.move (Operand.tmp 7), type := 3, pos := "outright.go:28", after := #[], guard := none }) (v := ?_) rfl (by kernel_rfl) (by kernel_rfl) (by kernel_rfl) (fun _ _ _ h => h) (Or.inl ⟨by rfl, ?_⟩) (by assumption) ?_
      rotate_left
      · (intro w9 hS9; (try dsimp only at hS9); go_simp); all_goals (with_reducible rfl)
      (try simp only [Act.put, List.setIfInBounds_toArray, List.set_cons_zero, List.set_cons_succ])
      refine wpAnyH_ready (rs := [2]) (by kernel_rfl) (by simp) ?_
      refine AllReadyH.cons (o := { dst := some 13, op := Op.call { callee := Callee.value (Operand.func 39), args := #[Operand.tmp 11, Operand.tmp 12], argTypes := #[24, 3] }, type := 24, pos := "outright.go:28", after := #[{ on := 0, ground := Ground.data }, { on := 1, ground := Ground.data }], guard := none }) rfl (fun K hK => ?_) ?_
      · go_simp
        with_reducible refine (C2.out _).mono ?_
        rintro e w1 ⟨rfl, hb1⟩
        have hS1 := HN.out _ _ (by assumption) hb1
        clear hb1
        (try go_wp2_with fail)
        refine hK.out _ _ ?_ (fun hHeld => ?_)
        · exact hS1
        clear hK K
        (try simp only [Act.put, List.setIfInBounds_toArray, List.set_cons_zero, List.set_cons_succ])
        refine wpAnyH_ready (rs := [5]) (by kernel_rfl) (by simp) ?_
        refine AllReadyH.cons (o := { dst := some 16, op := Op.call { callee := Callee.value (Operand.func 39), args := #[Operand.tmp 14, Operand.tmp 15], argTypes := #[24, 3] }, type := 24, pos := "outright.go:28", after := #[{ on := 3, ground := Ground.data }, { on := 4, ground := Ground.data }, { on := 2, ground := Ground.chain }], guard := none }) rfl (fun K hK => ?_) ?_
        · go_simp
          with_reducible refine (C3.out _).mono ?_
          rintro e w1 ⟨rfl, hb1⟩
          have hS1 := HN.out _ _ (by assumption) hb1
          clear hb1
          (try go_wp2_with fail)
          refine hK.out _ _ ?_ (fun hHeld => ?_)
          · exact hS1
          clear hK K
          (try simp only [Act.put, List.setIfInBounds_toArray, List.set_cons_zero, List.set_cons_succ])
          refine wpAnyH_take (i := 6) (oi := { dst := some 17, op := Op.binOp BinOp.neq 24 (Operand.tmp 13) (Operand.tmp 16) 24, type := 4, pos := "outright.go:28", after := #[{ on := 2, ground := Ground.data }, { on := 5, ground := Ground.data }], guard := none }) (v := ?_) rfl (by kernel_rfl) (by kernel_rfl) (by kernel_rfl) (fun _ _ _ h => h) (Or.inl ⟨by rfl, ?_⟩) (by assumption) ?_
          rotate_left
          · (intro w9 hS9; (try dsimp only at hS9); go_simp); all_goals (with_reducible rfl)
          (try simp only [Act.put, List.setIfInBounds_toArray, List.set_cons_zero, List.set_cons_succ])
          refine wpAnyH_take (i := 7) (oi := { dst := some 18, op := Op.move (Operand.tmp 17), type := 4, pos := "outright.go:28", after := #[{ on := 6, ground := Ground.data }, { on := 5, ground := Ground.chain }], guard := none }) (v := ?_) rfl (by kernel_rfl) (by kernel_rfl) (by kernel_rfl) (fun _ _ _ h => h) (Or.inl ⟨by rfl, ?_⟩) (by assumption) ?_
          rotate_left
          · (intro w9 hS9; (try dsimp only at hS9); go_simp); all_goals (with_reducible rfl)
          (try simp only [Act.put, List.setIfInBounds_toArray, List.set_cons_zero, List.set_cons_succ])
          refine wpAnyH_take (i := 8) (oi := { dst := some 19, op := Op.move (Operand.tmp 7), type := 3, pos := "outright.go:28", after := #[{ on := 7, ground := Ground.guard }], guard := some (7, false) }) (v := ?_) rfl (by kernel_rfl) (by kernel_rfl) (by kernel_rfl) (fun _ _ _ h => h) (Or.inl ⟨by rfl, ?_⟩) (by assumption) ?_
          rotate_left
          · (intro w9 hS9; (try dsimp only at hS9); go_simp); all_goals (with_reducible rfl)
          (try simp only [Act.put, List.setIfInBounds_toArray, List.set_cons_zero, List.set_cons_succ])
          refine wpAnyH_take (i := 9) (oi := { dst := some 20, op := Op.binOp BinOp.lss 3 (Operand.tmp 19) (Operand.const (Value.int IntKind.i64 128)) 3, type := 4, pos := "outright.go:28", after := #[{ on := 8, ground := Ground.data }, { on := 7, ground := Ground.guard }], guard := some (7, false) }) (v := ?_) rfl (by kernel_rfl) (by kernel_rfl) (by kernel_rfl) (fun _ _ _ h => h) (Or.inl ⟨by rfl, ?_⟩) (by assumption) ?_
          rotate_left
          · (intro w9 hS9; (try dsimp only at hS9); go_simp); all_goals (with_reducible rfl)
          (try simp only [Act.put, List.setIfInBounds_toArray, List.set_cons_zero, List.set_cons_succ])
          refine wpAnyH_take (i := 10) (oi := { dst := some 21, op := Op.load 24 (Operand.tmp 3), type := 24, pos := "outright.go:28", after := #[{ on := 7, ground := Ground.guard }], guard := some (7, false) }) (v := ?_) rfl (by kernel_rfl) (by kernel_rfl) (by kernel_rfl) (fun _ _ _ h => h) (Or.inl ⟨by rfl, ?_⟩) (by assumption) ?_
          rotate_left
          · (intro w9 hS9; (try dsimp only at hS9); go_simp); all_goals (with_reducible rfl)
          (try simp only [Act.put, List.setIfInBounds_toArray, List.set_cons_zero, List.set_cons_succ])
          refine wpAnyH_take (i := 11) (oi := { dst := some 22, op := Op.load 24 (Operand.tmp 4), type := 24, pos := "outright.go:28", after := #[{ on := 7, ground := Ground.guard }], guard := some (7, false) }) (v := ?_) rfl (by kernel_rfl) (by kernel_rfl) (by kernel_rfl) (fun _ _ _ h => h) (Or.inl ⟨by rfl, ?_⟩) (by assumption) ?_
          rotate_left
          · (intro w9 hS9; (try dsimp only at hS9); go_simp); all_goals (with_reducible rfl)
          (try simp only [Act.put, List.setIfInBounds_toArray, List.set_cons_zero, List.set_cons_succ])
          refine wpAnyH_take (i := 12) (oi := { dst := some 23, op := Op.binOp BinOp.eql 24 (Operand.tmp 21) (Operand.tmp 22) 24, type := 4, pos := "outright.go:28", after := #[{ on := 10, ground := Ground.data }, { on := 11, ground := Ground.data }, { on := 7, ground := Ground.guard }], guard := some (7, false) }) (v := ?_) rfl (by kernel_rfl) (by kernel_rfl) (by kernel_rfl) (fun _ _ _ h => h) (Or.inl ⟨by rfl, ?_⟩) (by assumption) ?_
          rotate_left
          · (intro w9 hS9; (try dsimp only at hS9); go_simp); all_goals (with_reducible rfl)
          (try simp only [Act.put, List.setIfInBounds_toArray, List.set_cons_zero, List.set_cons_succ])
          refine wpAnyH_take (i := 13) (oi := { dst := some 24, op := Op.binOp BinOp.eql 4 (Operand.tmp 20) (Operand.tmp 23) 4, type := 4, pos := "outright.go:28", after := #[{ on := 9, ground := Ground.data }, { on := 12, ground := Ground.data }, { on := 7, ground := Ground.guard }], guard := some (7, false) }) (v := ?_) rfl (by kernel_rfl) (by kernel_rfl) (by kernel_rfl) (fun _ _ _ h => h) (Or.inl ⟨by rfl, ?_⟩) (by assumption) ?_
          rotate_left
          · (intro w9 hS9; (try dsimp only at hS9); go_simp); all_goals (with_reducible rfl)
          (try simp only [Act.put, List.setIfInBounds_toArray, List.set_cons_zero, List.set_cons_succ])
          refine wpAnyH_take (i := 14) (oi := { dst := some 25, op := Op.pick (Operand.tmp 18) (Operand.const (Value.bool true)) (Operand.tmp 24), type := 4, pos := "outright.go:28", after := #[{ on := 7, ground := Ground.data }, { on := 13, ground := Ground.data }], guard := none }) (v := ?_) rfl (by kernel_rfl) (by kernel_rfl) (by kernel_rfl) (fun _ _ _ h => h) (Or.inl ⟨by rfl, ?_⟩) (by assumption) ?_
          rotate_left
          · (intro w9 hS9; (try dsimp only at hS9); go_simp); all_goals (with_reducible rfl)
          (try simp only [Act.put, List.setIfInBounds_toArray, List.set_cons_zero, List.set_cons_succ])
          refine wpAnyH_take (i := 15) (oi := { dst := some 26, op := Op.move (Operand.tmp 25), type := 4, pos := "outright.go:28", after := #[{ on := 14, ground := Ground.data }, { on := 7, ground := Ground.chain }], guard := none }) (v := ?_) rfl (by kernel_rfl) (by kernel_rfl) (by kernel_rfl) (fun _ _ _ h => h) (Or.inl ⟨by rfl, ?_⟩) (by assumption) ?_
          rotate_left
          · (intro w9 hS9; (try dsimp only at hS9); go_simp); all_goals (with_reducible rfl)
          (try simp only [Act.put, List.setIfInBounds_toArray, List.set_cons_zero, List.set_cons_succ])
          refine wpAnyH_take (i := 16) (oi := { dst := some 27, op := Op.move (Operand.tmp 7), type := 3, pos := "outright.go:28", after := #[{ on := 15, ground := Ground.guard }], guard := some (15, false) }) (v := ?_) rfl (by kernel_rfl) (by kernel_rfl) (by kernel_rfl) (fun _ _ _ h => h) (Or.inl ⟨by rfl, ?_⟩) (by assumption) ?_
          rotate_left
          · (intro w9 hS9; (try dsimp only at hS9); go_simp); all_goals (with_reducible rfl)
          (try simp only [Act.put, List.setIfInBounds_toArray, List.set_cons_zero, List.set_cons_succ])
          refine wpAnyH_take (i := 17) (oi := { dst := some 28, op := Op.binOp BinOp.lss 3 (Operand.tmp 27) (Operand.const (Value.int IntKind.i64 128)) 3, type := 4, pos := "outright.go:28", after := #[{ on := 16, ground := Ground.data }, { on := 15, ground := Ground.guard }], guard := some (15, false) }) (v := ?_) rfl (by kernel_rfl) (by kernel_rfl) (by kernel_rfl) (fun _ _ _ h => h) (Or.inl ⟨by rfl, ?_⟩) (by assumption) ?_
          rotate_left
          · (intro w9 hS9; (try dsimp only at hS9); go_simp); all_goals (with_reducible rfl)
          (try simp only [Act.put, List.setIfInBounds_toArray, List.set_cons_zero, List.set_cons_succ])
          refine wpAnyH_take (i := 18) (oi := { dst := some 29, op := Op.move (Operand.tmp 28), type := 4, pos := "outright.go:28", after := #[{ on := 17, ground := Ground.data }, { on := 15, ground := Ground.chain }, { on := 15, ground := Ground.guard }], guard := some (15, false) }) (v := ?_) rfl (by kernel_rfl) (by kernel_rfl) (by kernel_rfl) (fun _ _ _ h => h) (Or.inl ⟨by rfl, ?_⟩) (by assumption) ?_
          rotate_left
          · (intro w9 hS9; (try dsimp only at hS9); go_simp); all_goals (with_reducible rfl)
          (try simp only [Act.put, List.setIfInBounds_toArray, List.set_cons_zero, List.set_cons_succ])
          refine wpAnyH_take (i := 19) (oi := { dst := some 30, op := Op.load 24 (Operand.tmp 3), type := 24, pos := "outright.go:28", after := #[{ on := 18, ground := Ground.guard }], guard := some (18, true) }) (v := ?_) rfl (by kernel_rfl) (by kernel_rfl) (by kernel_rfl) (fun _ _ _ h => h) (Or.inl ⟨by rfl, ?_⟩) (by assumption) ?_
          rotate_left
          · (intro w9 hS9; (try dsimp only at hS9); go_simp); all_goals (with_reducible rfl)
          (try simp only [Act.put, List.setIfInBounds_toArray, List.set_cons_zero, List.set_cons_succ])
          refine wpAnyH_take (i := 20) (oi := { dst := some 31, op := Op.move (Operand.tmp 7), type := 3, pos := "outright.go:28", after := #[{ on := 18, ground := Ground.guard }], guard := some (18, true) }) (v := ?_) rfl (by kernel_rfl) (by kernel_rfl) (by kernel_rfl) (fun _ _ _ h => h) (Or.inl ⟨by rfl, ?_⟩) (by assumption) ?_
          rotate_left
          · (intro w9 hS9; (try dsimp only at hS9); go_simp); all_goals (with_reducible rfl)
          (try simp only [Act.put, List.setIfInBounds_toArray, List.set_cons_zero, List.set_cons_succ])
          refine wpAnyH_take (i := 21) (oi := { dst := some 32, op := Op.binOp BinOp.add 3 (Operand.tmp 31) (Operand.const (Value.int IntKind.i64 1)) 3, type := 3, pos := "outright.go:28", after := #[{ on := 20, ground := Ground.data }, { on := 18, ground := Ground.guard }], guard := some (18, true) }) (v := ?_) rfl (by kernel_rfl) (by kernel_rfl) (by kernel_rfl) (fun _ _ _ h => h) (Or.inl ⟨by rfl, ?_⟩) (by assumption) ?_
          rotate_left
          · (intro w9 hS9; (try dsimp only at hS9); go_simp); all_goals (with_reducible rfl)
          (try simp only [Act.put, List.setIfInBounds_toArray, List.set_cons_zero, List.set_cons_succ])
          refine wpAnyH_take (i := 23) (oi := { dst := some 34, op := Op.load 24 (Operand.tmp 4), type := 24, pos := "outright.go:28", after := #[{ on := 18, ground := Ground.guard }], guard := some (18, true) }) (v := ?_) rfl (by kernel_rfl) (by kernel_rfl) (by kernel_rfl) (fun _ _ _ h => h) (Or.inl ⟨by rfl, ?_⟩) (by assumption) ?_
          rotate_left
          · (intro w9 hS9; (try dsimp only at hS9); go_simp); all_goals (with_reducible rfl)
          (try simp only [Act.put, List.setIfInBounds_toArray, List.set_cons_zero, List.set_cons_succ])
          refine wpAnyH_take (i := 24) (oi := { dst := some 35, op := Op.move (Operand.tmp 7), type := 3, pos := "outright.go:28", after := #[{ on := 18, ground := Ground.guard }], guard := some (18, true) }) (v := ?_) rfl (by kernel_rfl) (by kernel_rfl) (by kernel_rfl) (fun _ _ _ h => h) (Or.inl ⟨by rfl, ?_⟩) (by assumption) ?_
          rotate_left
          · (intro w9 hS9; (try dsimp only at hS9); go_simp); all_goals (with_reducible rfl)
          (try simp only [Act.put, List.setIfInBounds_toArray, List.set_cons_zero, List.set_cons_succ])
          refine wpAnyH_take (i := 25) (oi := { dst := some 36, op := Op.binOp BinOp.add 3 (Operand.tmp 35) (Operand.const (Value.int IntKind.i64 1)) 3, type := 3, pos := "outright.go:28", after := #[{ on := 24, ground := Ground.data }, { on := 18, ground := Ground.guard }], guard := some (18, true) }) (v := ?_) rfl (by kernel_rfl) (by kernel_rfl) (by kernel_rfl) (fun _ _ _ h => h) (Or.inl ⟨by rfl, ?_⟩) (by assumption) ?_
          rotate_left
          · (intro w9 hS9; (try dsimp only at hS9); go_simp); all_goals (with_reducible rfl)
          (try simp only [Act.put, List.setIfInBounds_toArray, List.set_cons_zero, List.set_cons_succ])
          refine wpAnyH_ready (rs := [22]) (by kernel_rfl) (by simp) ?_
          refine AllReadyH.cons (o := { dst := some 33, op := Op.call { callee := Callee.value (Operand.func 39), args := #[Operand.tmp 30, Operand.tmp 32], argTypes := #[24, 3] }, type := 24, pos := "outright.go:28", after := #[{ on := 19, ground := Ground.data }, { on := 21, ground := Ground.data }, { on := 18, ground := Ground.chain }, { on := 18, ground := Ground.guard }], guard := some (18, true) }) rfl (fun K hK => ?_) ?_
          · go_simp
            with_reducible refine (C4.out _).mono ?_
            rintro e w1 ⟨rfl, hb1⟩
            have hS1 := HN.out _ _ (by assumption) hb1
            clear hb1
            (try go_wp2_with fail)
            refine hK.out _ _ ?_ (fun hHeld => ?_)
            · exact hS1
            clear hK K
            (try simp only [Act.put, List.setIfInBounds_toArray, List.set_cons_zero, List.set_cons_succ])
            refine wpAnyH_ready (rs := [26]) (by kernel_rfl) (by simp) ?_
            refine AllReadyH.cons (o := { dst := some 37, op := Op.call { callee := Callee.value (Operand.func 39), args := #[Operand.tmp 34, Operand.tmp 36], argTypes := #[24, 3] }, type := 24, pos := "outright.go:28", after := #[{ on := 23, ground := Ground.data }, { on := 25, ground := Ground.data }, { on := 22, ground := Ground.chain }, { on := 18, ground := Ground.guard }], guard := some (18, true) }) rfl (fun K hK => ?_) ?_
            · go_simp
              with_reducible refine (C5.out _).mono ?_
              rintro e w1 ⟨rfl, hb1⟩
              have hS1 := HN.out _ _ (by assumption) hb1
              clear hb1
              (try go_wp2_with fail)
              refine hK.out _ _ ?_ (fun hHeld => ?_)
              · exact hS1
              clear hK K
              (try simp only [Act.put, List.setIfInBounds_toArray, List.set_cons_zero, List.set_cons_succ])
              refine wpAnyH_take (i := 27) (oi := { dst := some 38, op := Op.binOp BinOp.eql 24 (Operand.tmp 33) (Operand.tmp 37) 24, type := 4, pos := "outright.go:28", after := #[{ on := 22, ground := Ground.data }, { on := 26, ground := Ground.data }, { on := 18, ground := Ground.guard }], guard := some (18, true) }) (v := ?_) rfl (by kernel_rfl) (by kernel_rfl) (by kernel_rfl) (fun _ _ _ h => h) (Or.inl ⟨by rfl, ?_⟩) (by assumption) ?_
              rotate_left
              · (intro w9 hS9; (try dsimp only at hS9); go_simp); all_goals (with_reducible rfl)
              (try simp only [Act.put, List.setIfInBounds_toArray, List.set_cons_zero, List.set_cons_succ])
              refine wpAnyH_take (i := 28) (oi := { dst := some 39, op := Op.pick (Operand.tmp 29) (Operand.tmp 38) (Operand.const (Value.bool false)), type := 4, pos := "outright.go:28", after := #[{ on := 18, ground := Ground.data }, { on := 27, ground := Ground.data }, { on := 15, ground := Ground.guard }], guard := some (15, false) }) (v := ?_) rfl (by kernel_rfl) (by kernel_rfl) (by kernel_rfl) (fun _ _ _ h => h) (Or.inl ⟨by rfl, ?_⟩) (by assumption) ?_
              rotate_left
              · (intro w9 hS9; (try dsimp only at hS9); go_simp); all_goals (with_reducible rfl)
              (try simp only [Act.put, List.setIfInBounds_toArray, List.set_cons_zero, List.set_cons_succ])
              refine wpAnyH_take (i := 29) (oi := { dst := some 40, op := Op.pick (Operand.tmp 26) (Operand.const (Value.bool true)) (Operand.tmp 39), type := 4, pos := "outright.go:28", after := #[{ on := 15, ground := Ground.data }, { on := 28, ground := Ground.data }], guard := none }) (v := ?_) rfl (by kernel_rfl) (by kernel_rfl) (by kernel_rfl) (fun _ _ _ h => h) (Or.inl ⟨by rfl, ?_⟩) (by assumption) ?_
              rotate_left
              · (intro w9 hS9; (try dsimp only at hS9); go_simp); all_goals (with_reducible rfl)
              (try simp only [Act.put, List.setIfInBounds_toArray, List.set_cons_zero, List.set_cons_succ])
              refine wpAnyH_done (by kernel_rfl) (NoPanic.normal ?_) _
              go_wp2_with fail
              go_meet
              case rel => exact ⟨rfl, And.left (by assumption)⟩
            exact AllReadyH.nil
          exact AllReadyH.nil
        exact AllReadyH.nil
      exact AllReadyH.nil
    · clear HC HIN
      have HNk : ∀ W, Boxes w W [(w.heap.size + 1, 24, bh, bl), (w.heap.size, 24, ah, al)] → (Boxes w W [(w.heap.size + 1, 24, bh, bl), (w.heap.size, 24, ah, al)] ∧ (W.cell? ⟨w.heap.size + 1, 0, none⟩ = some (.int .u64 bh) ∧ W.cell? ⟨w.heap.size + 1, 1, none⟩ = some (.int .u64 bl)) ∧ (W.cell? ⟨w.heap.size, 0, none⟩ = some (.int .u64 ah) ∧ W.cell? ⟨w.heap.size, 1, none⟩ = some (.int .u64 al))) := fun W h => ⟨h, two_cells (h.all (w.heap.size + 1, 24, bh, bl) (by simp)), two_cells (h.all (w.heap.size, 24, ah, al) (by simp))⟩
      have HN : Hid (∀ W V, (Boxes w W [(w.heap.size + 1, 24, bh, bl), (w.heap.size, 24, ah, al)] ∧ (W.cell? ⟨w.heap.size + 1, 0, none⟩ = some (.int .u64 bh) ∧ W.cell? ⟨w.heap.size + 1, 1, none⟩ = some (.int .u64 bl)) ∧ (W.cell? ⟨w.heap.size, 0, none⟩ = some (.int .u64 ah) ∧ W.cell? ⟨w.heap.size, 1, none⟩ = some (.int .u64 al))) → Below W.heap.size W V → (Boxes w V [(w.heap.size + 1, 24, bh, bl), (w.heap.size, 24, ah, al)] ∧ (V.cell? ⟨w.heap.size + 1, 0, none⟩ = some (.int .u64 bh) ∧ V.cell? ⟨w.heap.size + 1, 1, none⟩ = some (.int .u64 bl)) ∧ (V.cell? ⟨w.heap.size, 0, none⟩ = some (.int .u64 ah) ∧ V.cell? ⟨w.heap.size, 1, none⟩ = some (.int .u64 al)))) := fun W V h hb => HNk _ (h.1.next hb)
      have HS0 : Hid (Boxes w v1.drew [(w.heap.size + 1, 24, bh, bl), (w.heap.size, 24, ah, al)] ∧ (v1.drew.cell? ⟨w.heap.size + 1, 0, none⟩ = some (.int .u64 bh) ∧ v1.drew.cell? ⟨w.heap.size + 1, 1, none⟩ = some (.int .u64 bl)) ∧ (v1.drew.cell? ⟨w.heap.size, 0, none⟩ = some (.int .u64 ah) ∧ v1.drew.cell? ⟨w.heap.size, 1, none⟩ = some (.int .u64 al))) := HNk _ (HY1.out.next ⟨rfl, rfl, rfl, Nat.le_refl _, fun _ _ => rfl⟩)
      have HF : Hid (∀ W, (Boxes w W [(w.heap.size + 1, 24, bh, bl), (w.heap.size, 24, ah, al)] ∧ (W.cell? ⟨w.heap.size + 1, 0, none⟩ = some (.int .u64 bh) ∧ W.cell? ⟨w.heap.size + 1, 1, none⟩ = some (.int .u64 bl)) ∧ (W.cell? ⟨w.heap.size, 0, none⟩ = some (.int .u64 ah) ∧ W.cell? ⟨w.heap.size, 1, none⟩ = some (.int .u64 al))) → Below w.heap.size w W) := fun W h => h.1.below
      clear HNk r0 s0 r1 s1
      refine wp_region_noPanic ?_
      refine wp_region_held_drew (S := fun W => Boxes w W [(w.heap.size + 1, 24, bh, bl), (w.heap.size, 24, ah, al)] ∧ (W.cell? ⟨w.heap.size + 1, 0, none⟩ = some (.int .u64 bh) ∧ W.cell? ⟨w.heap.size + 1, 1, none⟩ = some (.int .u64 bl)) ∧ (W.cell? ⟨w.heap.size, 0, none⟩ = some (.int .u64 ah) ∧ W.cell? ⟨w.heap.size, 1, none⟩ = some (.int .u64 al))) (by kernel_rfl) ?_ (fun hHeld => ?_)
      · exact HS0.out
      refine wpAnyH_take (i := 0) (oi := { dst := some 11, op := Op.load 24 (Operand.tmp 3), type := 24, pos := "outright.go:28", after := #[], guard := none }) (v := ?_) rfl (by kernel_rfl) (by kernel_rfl) (by kernel_rfl) (fun _ _ _ h => h) (Or.inl ⟨by rfl, ?_⟩) (by assumption) ?_
      rotate_left
      · (intro w9 hS9; (try dsimp only at hS9); go_simp); all_goals (with_reducible rfl)
      (try simp only [Act.put, List.setIfInBounds_toArray, List.set_cons_zero, List.set_cons_succ])
      refine wpAnyH_take (i := 1) (oi := { dst := some 12, op := Op.move (Operand.tmp 7), type := 3, pos := "outright.go:28", after := #[], guard := none }) (v := ?_) rfl (by kernel_rfl) (by kernel_rfl) (by kernel_rfl) (fun _ _ _ h => h) (Or.inl ⟨by rfl, ?_⟩) (by assumption) ?_
      rotate_left
      · (intro w9 hS9; (try dsimp only at hS9); go_simp); all_goals (with_reducible rfl)
      (try simp only [Act.put, List.setIfInBounds_toArray, List.set_cons_zero, List.set_cons_succ])
      refine wpAnyH_take (i := 3) (oi := { dst := some 14, op := Op.load 24 (Operand.tmp 4), type := 24, pos := "outright.go:28", after := #[], guard := none }) (v := ?_) rfl (by kernel_rfl) (by kernel_rfl) (by kernel_rfl) (fun _ _ _ h => h) (Or.inl ⟨by rfl, ?_⟩) (by assumption) ?_
      rotate_left
      · (intro w9 hS9; (try dsimp only at hS9); go_simp); all_goals (with_reducible rfl)
      (try simp only [Act.put, List.setIfInBounds_toArray, List.set_cons_zero, List.set_cons_succ])
      refine wpAnyH_take (i := 4) (oi := { dst := some 15, op := Op.move (Operand.tmp 7), type := 3, pos := "outright.go:28", after := #[], guard := none }) (v := ?_) rfl (by kernel_rfl) (by kernel_rfl) (by kernel_rfl) (fun _ _ _ h => h) (Or.inl ⟨by rfl, ?_⟩) (by assumption) ?_
      rotate_left
      · (intro w9 hS9; (try dsimp only at hS9); go_simp); all_goals (with_reducible rfl)
      (try simp only [Act.put, List.setIfInBounds_toArray, List.set_cons_zero, List.set_cons_succ])
      refine wpAnyH_ready (rs := [2]) (by kernel_rfl) (by simp) ?_
      refine AllReadyH.cons (o := { dst := some 13, op := Op.call { callee := Callee.value (Operand.func 39), args := #[Operand.tmp 11, Operand.tmp 12], argTypes := #[24, 3] }, type := 24, pos := "outright.go:28", after := #[{ on := 0, ground := Ground.data }, { on := 1, ground := Ground.data }], guard := none }) rfl (fun K hK => ?_) ?_
      · go_simp
        with_reducible refine (C2.out _).mono ?_
        rintro e w1 ⟨rfl, hb1⟩
        have hS1 := HN.out _ _ (by assumption) hb1
        clear hb1
        (try go_wp2_with fail)
        refine hK.out _ _ ?_ (fun hHeld => ?_)
        · exact hS1
        clear hK K
        (try simp only [Act.put, List.setIfInBounds_toArray, List.set_cons_zero, List.set_cons_succ])
        refine wpAnyH_ready (rs := [5]) (by kernel_rfl) (by simp) ?_
        refine AllReadyH.cons (o := { dst := some 16, op := Op.call { callee := Callee.value (Operand.func 39), args := #[Operand.tmp 14, Operand.tmp 15], argTypes := #[24, 3] }, type := 24, pos := "outright.go:28", after := #[{ on := 3, ground := Ground.data }, { on := 4, ground := Ground.data }, { on := 2, ground := Ground.chain }], guard := none }) rfl (fun K hK => ?_) ?_
        · go_simp
          with_reducible refine (C3.out _).mono ?_
          rintro e w1 ⟨rfl, hb1⟩
          have hS1 := HN.out _ _ (by assumption) hb1
          clear hb1
          (try go_wp2_with fail)
          refine hK.out _ _ ?_ (fun hHeld => ?_)
          · exact hS1
          clear hK K
          (try simp only [Act.put, List.setIfInBounds_toArray, List.set_cons_zero, List.set_cons_succ])
          refine wpAnyH_take (i := 6) (oi := { dst := some 17, op := Op.binOp BinOp.neq 24 (Operand.tmp 13) (Operand.tmp 16) 24, type := 4, pos := "outright.go:28", after := #[{ on := 2, ground := Ground.data }, { on := 5, ground := Ground.data }], guard := none }) (v := ?_) rfl (by kernel_rfl) (by kernel_rfl) (by kernel_rfl) (fun _ _ _ h => h) (Or.inl ⟨by rfl, ?_⟩) (by assumption) ?_
          rotate_left
          · (intro w9 hS9; (try dsimp only at hS9); go_simp); all_goals (with_reducible rfl)
          (try simp only [Act.put, List.setIfInBounds_toArray, List.set_cons_zero, List.set_cons_succ])
          refine wpAnyH_take (i := 7) (oi := { dst := some 18, op := Op.move (Operand.tmp 17), type := 4, pos := "outright.go:28", after := #[{ on := 6, ground := Ground.data }, { on := 5, ground := Ground.chain }], guard := none }) (v := ?_) rfl (by kernel_rfl) (by kernel_rfl) (by kernel_rfl) (fun _ _ _ h => h) (Or.inl ⟨by rfl, ?_⟩) (by assumption) ?_
          rotate_left
          · (intro w9 hS9; (try dsimp only at hS9); go_simp); all_goals (with_reducible rfl)
          (try simp only [Act.put, List.setIfInBounds_toArray, List.set_cons_zero, List.set_cons_succ])
          refine wpAnyH_take (i := 8) (oi := { dst := some 19, op := Op.move (Operand.tmp 7), type := 3, pos := "outright.go:28", after := #[{ on := 7, ground := Ground.guard }], guard := some (7, false) }) (v := ?_) rfl (by kernel_rfl) (by kernel_rfl) (by kernel_rfl) (fun _ _ _ h => h) (Or.inl ⟨by rfl, ?_⟩) (by assumption) ?_
          rotate_left
          · (intro w9 hS9; (try dsimp only at hS9); go_simp); all_goals (with_reducible rfl)
          (try simp only [Act.put, List.setIfInBounds_toArray, List.set_cons_zero, List.set_cons_succ])
          refine wpAnyH_take (i := 9) (oi := { dst := some 20, op := Op.binOp BinOp.lss 3 (Operand.tmp 19) (Operand.const (Value.int IntKind.i64 128)) 3, type := 4, pos := "outright.go:28", after := #[{ on := 8, ground := Ground.data }, { on := 7, ground := Ground.guard }], guard := some (7, false) }) (v := ?_) rfl (by kernel_rfl) (by kernel_rfl) (by kernel_rfl) (fun _ _ _ h => h) (Or.inl ⟨by rfl, ?_⟩) (by assumption) ?_
          rotate_left
          · (intro w9 hS9; (try dsimp only at hS9); go_simp); all_goals (with_reducible rfl)
          (try simp only [Act.put, List.setIfInBounds_toArray, List.set_cons_zero, List.set_cons_succ])
          refine wpAnyH_take (i := 10) (oi := { dst := some 21, op := Op.load 24 (Operand.tmp 3), type := 24, pos := "outright.go:28", after := #[{ on := 7, ground := Ground.guard }], guard := some (7, false) }) (v := ?_) rfl (by kernel_rfl) (by kernel_rfl) (by kernel_rfl) (fun _ _ _ h => h) (Or.inl ⟨by rfl, ?_⟩) (by assumption) ?_
          rotate_left
          · (intro w9 hS9; (try dsimp only at hS9); go_simp); all_goals (with_reducible rfl)
          (try simp only [Act.put, List.setIfInBounds_toArray, List.set_cons_zero, List.set_cons_succ])
          refine wpAnyH_take (i := 11) (oi := { dst := some 22, op := Op.load 24 (Operand.tmp 4), type := 24, pos := "outright.go:28", after := #[{ on := 7, ground := Ground.guard }], guard := some (7, false) }) (v := ?_) rfl (by kernel_rfl) (by kernel_rfl) (by kernel_rfl) (fun _ _ _ h => h) (Or.inl ⟨by rfl, ?_⟩) (by assumption) ?_
          rotate_left
          · (intro w9 hS9; (try dsimp only at hS9); go_simp); all_goals (with_reducible rfl)
          (try simp only [Act.put, List.setIfInBounds_toArray, List.set_cons_zero, List.set_cons_succ])
          refine wpAnyH_take (i := 12) (oi := { dst := some 23, op := Op.binOp BinOp.eql 24 (Operand.tmp 21) (Operand.tmp 22) 24, type := 4, pos := "outright.go:28", after := #[{ on := 10, ground := Ground.data }, { on := 11, ground := Ground.data }, { on := 7, ground := Ground.guard }], guard := some (7, false) }) (v := ?_) rfl (by kernel_rfl) (by kernel_rfl) (by kernel_rfl) (fun _ _ _ h => h) (Or.inl ⟨by rfl, ?_⟩) (by assumption) ?_
          rotate_left
          · (intro w9 hS9; (try dsimp only at hS9); go_simp); all_goals (with_reducible rfl)
          (try simp only [Act.put, List.setIfInBounds_toArray, List.set_cons_zero, List.set_cons_succ])
          refine wpAnyH_take (i := 13) (oi := { dst := some 24, op := Op.binOp BinOp.eql 4 (Operand.tmp 20) (Operand.tmp 23) 4, type := 4, pos := "outright.go:28", after := #[{ on := 9, ground := Ground.data }, { on := 12, ground := Ground.data }, { on := 7, ground := Ground.guard }], guard := some (7, false) }) (v := ?_) rfl (by kernel_rfl) (by kernel_rfl) (by kernel_rfl) (fun _ _ _ h => h) (Or.inl ⟨by rfl, ?_⟩) (by assumption) ?_
          rotate_left
          · (intro w9 hS9; (try dsimp only at hS9); go_simp); all_goals (with_reducible rfl)
          (try simp only [Act.put, List.setIfInBounds_toArray, List.set_cons_zero, List.set_cons_succ])
          refine wpAnyH_take (i := 14) (oi := { dst := some 25, op := Op.pick (Operand.tmp 18) (Operand.const (Value.bool true)) (Operand.tmp 24), type := 4, pos := "outright.go:28", after := #[{ on := 7, ground := Ground.data }, { on := 13, ground := Ground.data }], guard := none }) (v := ?_) rfl (by kernel_rfl) (by kernel_rfl) (by kernel_rfl) (fun _ _ _ h => h) (Or.inl ⟨by rfl, ?_⟩) (by assumption) ?_
          rotate_left
          · (intro w9 hS9; (try dsimp only at hS9); go_simp); all_goals (with_reducible rfl)
          (try simp only [Act.put, List.setIfInBounds_toArray, List.set_cons_zero, List.set_cons_succ])
          refine wpAnyH_take (i := 15) (oi := { dst := some 26, op := Op.move (Operand.tmp 25), type := 4, pos := "outright.go:28", after := #[{ on := 14, ground := Ground.data }, { on := 7, ground := Ground.chain }], guard := none }) (v := ?_) rfl (by kernel_rfl) (by kernel_rfl) (by kernel_rfl) (fun _ _ _ h => h) (Or.inl ⟨by rfl, ?_⟩) (by assumption) ?_
          rotate_left
          · (intro w9 hS9; (try dsimp only at hS9); go_simp); all_goals (with_reducible rfl)
          (try simp only [Act.put, List.setIfInBounds_toArray, List.set_cons_zero, List.set_cons_succ])
          refine wpAnyH_take (i := 16) (oi := { dst := some 27, op := Op.move (Operand.tmp 7), type := 3, pos := "outright.go:28", after := #[{ on := 15, ground := Ground.guard }], guard := some (15, false) }) (v := ?_) rfl (by kernel_rfl) (by kernel_rfl) (by kernel_rfl) (fun _ _ _ h => h) (Or.inl ⟨by rfl, ?_⟩) (by assumption) ?_
          rotate_left
          · (intro w9 hS9; (try dsimp only at hS9); go_simp); all_goals (with_reducible rfl)
          (try simp only [Act.put, List.setIfInBounds_toArray, List.set_cons_zero, List.set_cons_succ])
          refine wpAnyH_take (i := 17) (oi := { dst := some 28, op := Op.binOp BinOp.lss 3 (Operand.tmp 27) (Operand.const (Value.int IntKind.i64 128)) 3, type := 4, pos := "outright.go:28", after := #[{ on := 16, ground := Ground.data }, { on := 15, ground := Ground.guard }], guard := some (15, false) }) (v := ?_) rfl (by kernel_rfl) (by kernel_rfl) (by kernel_rfl) (fun _ _ _ h => h) (Or.inl ⟨by rfl, ?_⟩) (by assumption) ?_
          rotate_left
          · (intro w9 hS9; (try dsimp only at hS9); go_simp); all_goals (with_reducible rfl)
          (try simp only [Act.put, List.setIfInBounds_toArray, List.set_cons_zero, List.set_cons_succ])
          refine wpAnyH_take (i := 18) (oi := { dst := some 29, op := Op.move (Operand.tmp 28), type := 4, pos := "outright.go:28", after := #[{ on := 17, ground := Ground.data }, { on := 15, ground := Ground.chain }, { on := 15, ground := Ground.guard }], guard := some (15, false) }) (v := ?_) rfl (by kernel_rfl) (by kernel_rfl) (by kernel_rfl) (fun _ _ _ h => h) (Or.inl ⟨by rfl, ?_⟩) (by assumption) ?_
          rotate_left
          · (intro w9 hS9; (try dsimp only at hS9); go_simp); all_goals (with_reducible rfl)
          (try simp only [Act.put, List.setIfInBounds_toArray, List.set_cons_zero, List.set_cons_succ])
          refine wpAnyH_take (i := 19) (oi := { dst := some 30, op := Op.load 24 (Operand.tmp 3), type := 24, pos := "outright.go:28", after := #[{ on := 18, ground := Ground.guard }], guard := some (18, true) }) (v := ?_) rfl (by kernel_rfl) (by kernel_rfl) (by kernel_rfl) (fun _ _ _ h => h) (Or.inl ⟨by rfl, ?_⟩) (by assumption) ?_
          rotate_left
          · (intro w9 hS9; (try dsimp only at hS9); go_simp); all_goals (with_reducible rfl)
          (try simp only [Act.put, List.setIfInBounds_toArray, List.set_cons_zero, List.set_cons_succ])
          refine wpAnyH_take (i := 20) (oi := { dst := some 31, op := Op.move (Operand.tmp 7), type := 3, pos := "outright.go:28", after := #[{ on := 18, ground := Ground.guard }], guard := some (18, true) }) (v := ?_) rfl (by kernel_rfl) (by kernel_rfl) (by kernel_rfl) (fun _ _ _ h => h) (Or.inl ⟨by rfl, ?_⟩) (by assumption) ?_
          rotate_left
          · (intro w9 hS9; (try dsimp only at hS9); go_simp); all_goals (with_reducible rfl)
          (try simp only [Act.put, List.setIfInBounds_toArray, List.set_cons_zero, List.set_cons_succ])
          refine wpAnyH_take (i := 21) (oi := { dst := some 32, op := Op.binOp BinOp.add 3 (Operand.tmp 31) (Operand.const (Value.int IntKind.i64 1)) 3, type := 3, pos := "outright.go:28", after := #[{ on := 20, ground := Ground.data }, { on := 18, ground := Ground.guard }], guard := some (18, true) }) (v := ?_) rfl (by kernel_rfl) (by kernel_rfl) (by kernel_rfl) (fun _ _ _ h => h) (Or.inl ⟨by rfl, ?_⟩) (by assumption) ?_
          rotate_left
          · (intro w9 hS9; (try dsimp only at hS9); go_simp); all_goals (with_reducible rfl)
          (try simp only [Act.put, List.setIfInBounds_toArray, List.set_cons_zero, List.set_cons_succ])
          refine wpAnyH_take (i := 23) (oi := { dst := some 34, op := Op.load 24 (Operand.tmp 4), type := 24, pos := "outright.go:28", after := #[{ on := 18, ground := Ground.guard }], guard := some (18, true) }) (v := ?_) rfl (by kernel_rfl) (by kernel_rfl) (by kernel_rfl) (fun _ _ _ h => h) (Or.inl ⟨by rfl, ?_⟩) (by assumption) ?_
          rotate_left
          · (intro w9 hS9; (try dsimp only at hS9); go_simp); all_goals (with_reducible rfl)
          (try simp only [Act.put, List.setIfInBounds_toArray, List.set_cons_zero, List.set_cons_succ])
          refine wpAnyH_take (i := 24) (oi := { dst := some 35, op := Op.move (Operand.tmp 7), type := 3, pos := "outright.go:28", after := #[{ on := 18, ground := Ground.guard }], guard := some (18, true) }) (v := ?_) rfl (by kernel_rfl) (by kernel_rfl) (by kernel_rfl) (fun _ _ _ h => h) (Or.inl ⟨by rfl, ?_⟩) (by assumption) ?_
          rotate_left
          · (intro w9 hS9; (try dsimp only at hS9); go_simp); all_goals (with_reducible rfl)
          (try simp only [Act.put, List.setIfInBounds_toArray, List.set_cons_zero, List.set_cons_succ])
          refine wpAnyH_take (i := 25) (oi := { dst := some 36, op := Op.binOp BinOp.add 3 (Operand.tmp 35) (Operand.const (Value.int IntKind.i64 1)) 3, type := 3, pos := "outright.go:28", after := #[{ on := 24, ground := Ground.data }, { on := 18, ground := Ground.guard }], guard := some (18, true) }) (v := ?_) rfl (by kernel_rfl) (by kernel_rfl) (by kernel_rfl) (fun _ _ _ h => h) (Or.inl ⟨by rfl, ?_⟩) (by assumption) ?_
          rotate_left
          · (intro w9 hS9; (try dsimp only at hS9); go_simp); all_goals (with_reducible rfl)
          (try simp only [Act.put, List.setIfInBounds_toArray, List.set_cons_zero, List.set_cons_succ])
          refine wpAnyH_ready (rs := [22]) (by kernel_rfl) (by simp) ?_
          refine AllReadyH.cons (o := { dst := some 33, op := Op.call { callee := Callee.value (Operand.func 39), args := #[Operand.tmp 30, Operand.tmp 32], argTypes := #[24, 3] }, type := 24, pos := "outright.go:28", after := #[{ on := 19, ground := Ground.data }, { on := 21, ground := Ground.data }, { on := 18, ground := Ground.chain }, { on := 18, ground := Ground.guard }], guard := some (18, true) }) rfl (fun K hK => ?_) ?_
          · go_simp
            with_reducible refine (C4.out _).mono ?_
            rintro e w1 ⟨rfl, hb1⟩
            have hS1 := HN.out _ _ (by assumption) hb1
            clear hb1
            (try go_wp2_with fail)
            refine hK.out _ _ ?_ (fun hHeld => ?_)
            · exact hS1
            clear hK K
            (try simp only [Act.put, List.setIfInBounds_toArray, List.set_cons_zero, List.set_cons_succ])
            refine wpAnyH_ready (rs := [26]) (by kernel_rfl) (by simp) ?_
            refine AllReadyH.cons (o := { dst := some 37, op := Op.call { callee := Callee.value (Operand.func 39), args := #[Operand.tmp 34, Operand.tmp 36], argTypes := #[24, 3] }, type := 24, pos := "outright.go:28", after := #[{ on := 23, ground := Ground.data }, { on := 25, ground := Ground.data }, { on := 22, ground := Ground.chain }, { on := 18, ground := Ground.guard }], guard := some (18, true) }) rfl (fun K hK => ?_) ?_
            · go_simp
              with_reducible refine (C5.out _).mono ?_
              rintro e w1 ⟨rfl, hb1⟩
              have hS1 := HN.out _ _ (by assumption) hb1
              clear hb1
              (try go_wp2_with fail)
              refine hK.out _ _ ?_ (fun hHeld => ?_)
              · exact hS1
              clear hK K
              (try simp only [Act.put, List.setIfInBounds_toArray, List.set_cons_zero, List.set_cons_succ])
              refine wpAnyH_take (i := 27) (oi := { dst := some 38, op := Op.binOp BinOp.eql 24 (Operand.tmp 33) (Operand.tmp 37) 24, type := 4, pos := "outright.go:28", after := #[{ on := 22, ground := Ground.data }, { on := 26, ground := Ground.data }, { on := 18, ground := Ground.guard }], guard := some (18, true) }) (v := ?_) rfl (by kernel_rfl) (by kernel_rfl) (by kernel_rfl) (fun _ _ _ h => h) (Or.inl ⟨by rfl, ?_⟩) (by assumption) ?_
              rotate_left
              · (intro w9 hS9; (try dsimp only at hS9); go_simp); all_goals (with_reducible rfl)
              (try simp only [Act.put, List.setIfInBounds_toArray, List.set_cons_zero, List.set_cons_succ])
              refine wpAnyH_take (i := 28) (oi := { dst := some 39, op := Op.pick (Operand.tmp 29) (Operand.tmp 38) (Operand.const (Value.bool false)), type := 4, pos := "outright.go:28", after := #[{ on := 18, ground := Ground.data }, { on := 27, ground := Ground.data }, { on := 15, ground := Ground.guard }], guard := some (15, false) }) (v := ?_) rfl (by kernel_rfl) (by kernel_rfl) (by kernel_rfl) (fun _ _ _ h => h) (Or.inl ⟨by rfl, ?_⟩) (by assumption) ?_
              rotate_left
              · (intro w9 hS9; (try dsimp only at hS9); go_simp); all_goals (with_reducible rfl)
              (try simp only [Act.put, List.setIfInBounds_toArray, List.set_cons_zero, List.set_cons_succ])
              refine wpAnyH_take (i := 29) (oi := { dst := some 40, op := Op.pick (Operand.tmp 26) (Operand.const (Value.bool true)) (Operand.tmp 39), type := 4, pos := "outright.go:28", after := #[{ on := 15, ground := Ground.data }, { on := 28, ground := Ground.data }], guard := none }) (v := ?_) rfl (by kernel_rfl) (by kernel_rfl) (by kernel_rfl) (fun _ _ _ h => h) (Or.inl ⟨by rfl, ?_⟩) (by assumption) ?_
              rotate_left
              · (intro w9 hS9; (try dsimp only at hS9); go_simp); all_goals (with_reducible rfl)
              (try simp only [Act.put, List.setIfInBounds_toArray, List.set_cons_zero, List.set_cons_succ])
              refine wpAnyH_done (by kernel_rfl) (NoPanic.normal ?_) _
              go_wp2_with fail
              go_meet
              case rel => exact ⟨rfl, And.left (by assumption)⟩
            exact AllReadyH.nil
          exact AllReadyH.nil
        exact AllReadyH.nil
      exact AllReadyH.nil
  case rest =>
    obtain ⟨rfl, hX⟩ := hcut
    have HZ := Lib.hid hX
    clear hX HC
    generalize wc = wz at *
    cases q1
    · cases q2
      · obtain ⟨hm, c6, c7, c8, c9, c10, c11⟩ := HIN.out rfl rfl
        have C6 := Lib.hid c6
        have C7 := Lib.hid c7
        have C8 := Lib.hid c8
        have C9 := Lib.hid c9
        have C10 := Lib.hid c10
        have C11 := Lib.hid c11
        clear c6 c7 c8 c9 c10 c11 HIN
        go_wp2_with fail
        have HNk : ∀ W, Boxes w W [(w.heap.size + 1, 24, bh, bl), (w.heap.size, 24, ah, al)] → (Boxes w W [(w.heap.size + 1, 24, bh, bl), (w.heap.size, 24, ah, al)] ∧ (W.cell? ⟨w.heap.size + 1, 0, none⟩ = some (.int .u64 bh) ∧ W.cell? ⟨w.heap.size + 1, 1, none⟩ = some (.int .u64 bl)) ∧ (W.cell? ⟨w.heap.size, 0, none⟩ = some (.int .u64 ah) ∧ W.cell? ⟨w.heap.size, 1, none⟩ = some (.int .u64 al))) := fun W h => ⟨h, two_cells (h.all (w.heap.size + 1, 24, bh, bl) (by simp)), two_cells (h.all (w.heap.size, 24, ah, al) (by simp))⟩
        have HN : Hid (∀ W V, (Boxes w W [(w.heap.size + 1, 24, bh, bl), (w.heap.size, 24, ah, al)] ∧ (W.cell? ⟨w.heap.size + 1, 0, none⟩ = some (.int .u64 bh) ∧ W.cell? ⟨w.heap.size + 1, 1, none⟩ = some (.int .u64 bl)) ∧ (W.cell? ⟨w.heap.size, 0, none⟩ = some (.int .u64 ah) ∧ W.cell? ⟨w.heap.size, 1, none⟩ = some (.int .u64 al))) → Below W.heap.size W V → (Boxes w V [(w.heap.size + 1, 24, bh, bl), (w.heap.size, 24, ah, al)] ∧ (V.cell? ⟨w.heap.size + 1, 0, none⟩ = some (.int .u64 bh) ∧ V.cell? ⟨w.heap.size + 1, 1, none⟩ = some (.int .u64 bl)) ∧ (V.cell? ⟨w.heap.size, 0, none⟩ = some (.int .u64 ah) ∧ V.cell? ⟨w.heap.size, 1, none⟩ = some (.int .u64 al)))) := fun W V h hb => HNk _ (h.1.next hb)
        have HS0 : Hid (Boxes w wz.drew [(w.heap.size + 1, 24, bh, bl), (w.heap.size, 24, ah, al)] ∧ (wz.drew.cell? ⟨w.heap.size + 1, 0, none⟩ = some (.int .u64 bh) ∧ wz.drew.cell? ⟨w.heap.size + 1, 1, none⟩ = some (.int .u64 bl)) ∧ (wz.drew.cell? ⟨w.heap.size, 0, none⟩ = some (.int .u64 ah) ∧ wz.drew.cell? ⟨w.heap.size, 1, none⟩ = some (.int .u64 al))) := HNk _ (HZ.out.next ⟨rfl, rfl, rfl, Nat.le_refl _, fun _ _ => rfl⟩)
        have HF : Hid (∀ W, (Boxes w W [(w.heap.size + 1, 24, bh, bl), (w.heap.size, 24, ah, al)] ∧ (W.cell? ⟨w.heap.size + 1, 0, none⟩ = some (.int .u64 bh) ∧ W.cell? ⟨w.heap.size + 1, 1, none⟩ = some (.int .u64 bl)) ∧ (W.cell? ⟨w.heap.size, 0, none⟩ = some (.int .u64 ah) ∧ W.cell? ⟨w.heap.size, 1, none⟩ = some (.int .u64 al))) → Below w.heap.size w W) := fun W h => h.1.below
        clear HNk
        go_region_held3 (fun W => Boxes w W [(w.heap.size + 1, 24, bh, bl), (w.heap.size, 24, ah, al)] ∧ (W.cell? ⟨w.heap.size + 1, 0, none⟩ = some (.int .u64 bh) ∧ W.cell? ⟨w.heap.size + 1, 1, none⟩ = some (.int .u64 bl)) ∧ (W.cell? ⟨w.heap.size, 0, none⟩ = some (.int .u64 ah) ∧ W.cell? ⟨w.heap.size, 1, none⟩ = some (.int .u64 al))) (first | exact HS0.out | assumption)
          (first
            | (go_at_call 24; with_reducible refine (alive_any _).mono ?_; rintro e w1 ⟨rfl, hb1⟩; have hS1 := HN.out _ _ (by assumption) hb1; clear hb1)
            | (go_at_call 32; with_reducible refine (C6.out _).mono ?_; rintro e w1 ⟨rfl, hb1⟩; have hS1 := HN.out _ _ (by assumption) hb1; clear hb1)
            | (go_at_call 30; with_reducible refine (C7.out _).mono ?_; rintro e w1 ⟨rfl, hb1⟩; have hS1 := HN.out _ _ (by assumption) hb1; clear hb1)
            | (go_at_call 39; with_reducible refine (C8.out _).mono ?_; rintro e w1 ⟨rfl, hb1⟩; have hS1 := HN.out _ _ (by assumption) hb1; clear hb1)
            | (go_at_call 30; with_reducible refine (C9.out _).mono ?_; rintro e w1 ⟨rfl, hb1⟩; have hS1 := HN.out _ _ (by assumption) hb1; clear hb1)
            | (go_at_call 32; with_reducible refine (C10.out _).mono ?_; rintro e w1 ⟨rfl, hb1⟩; have hS1 := HN.out _ _ (by assumption) hb1; clear hb1)
            | (go_at_call 36; with_reducible refine (C11.out _).mono ?_; rintro e w1 ⟨rfl, hb1⟩; have hS1 := HN.out _ _ (by assumption) hb1; clear hb1))
        all_goals (go_wp2_with fail; go_ret)
        all_goals exact ⟨rfl, HF.out _ (by assumption)⟩
      · clear HIN
        go_wp2_with (first | (go_at_call 24; refine (alive_any _).mono ?_; rintro e v2 ⟨rfl, hb1⟩; have hX := HZ.out.next hb1; clear hb1))
        go_ret
        exact ⟨rfl, hX.below⟩
    · clear HIN
      go_wp2_with (first | (go_at_call 24; refine (alive_any _).mono ?_; rintro e v2 ⟨rfl, hb1⟩; have hX := HZ.out.next hb1; clear hb1))
      go_ret
      exact ⟨rfl, hX.below⟩

end Go.Proofs.Ytcaeaepnobbjlaa
