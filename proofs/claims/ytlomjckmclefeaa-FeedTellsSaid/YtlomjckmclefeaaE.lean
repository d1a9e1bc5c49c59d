/- The feed: FeedOrders' walk. -/
import Derived.Test.YtlomjckmclefeaaD
namespace Go.Proofs.Ytlomjckmclefeaa
set_option linter.unusedVariables false
set_option linter.unusedSimpArgs false
open Go.Conc Go.RowKit

/-- A slice of Booleans, read. -/
structure BoolsAt (w : World) (v : Value) (xs : List Bool) : Prop where
  form : ∃ a cap, v = .slice a xs.length cap ∧ (0 < xs.length → ∃ b off, a = some ⟨b, off, none⟩ ∧ ∀ i, (h : i < xs.length) → w.cell? ⟨b, off + i, none⟩ = some (.bool xs[i]))

/-- What FeedOrders holds: a feed; two slices of its own. -/
structure OrdAt (w : World) (B : Nat) (wr : World) (b cu cn n : Nat) (cl : Bool) (f t : Value) (F T U N : List Int) : Prop where
  feed : FeedAt wr b cu cn n U N cl
  own1 : OwnI B wr f F
  own2 : OwnI B wr t T
  dis : ∀ k, f.ownBlock = some k → t.ownBlock ≠ some k
  below : Below w.heap.size w wr
  lo : w.heap.size ≤ b ∧ w.heap.size ≤ cu ∧ w.heap.size ≤ cn
  hi : b < B ∧ cu < B ∧ cn < B
  sz : B ≤ wr.heap.size
theorem OrdAt.start {w w1 : World} {b cu cn n : Nat} (hf : FeedAt w1 b cu cn n [] [] false) (hb : Below w.heap.size w w1) (h1 : w.heap.size ≤ b) (h2 : w.heap.size ≤ cu) (h3 : w.heap.size ≤ cn) :
    OrdAt w w1.heap.size w1 b cu cn n false (.slice none 0 0) (.slice none 0 0) [] [] [] [] :=
  ⟨hf, own_nil _ _, own_nil _ _, fun k h => by simp [Value.ownBlock] at h, hb, ⟨h1, h2, h3⟩, hf.lt, Nat.le_refl _⟩
theorem OrdAt.upd {w wr w2 : World} {B b cu cn n : Nat} {cl cl' : Bool} {f t : Value} {F T U N U' N' : List Int} (h : OrdAt w B wr b cu cn n cl f t F T U N) (hf : FeedAt w2 b cu cn n U' N' cl') (k : Upd [b, cu, cn] wr w2) : OrdAt w B w2 b cu cn n cl' f t F T U' N' := by
  have hi := h.hi
  have lo := h.lo
  have hs := h.sz
  refine ⟨hf, h.own1.upd k (fun i hk => ?_), h.own2.upd k (fun i hk => ?_), h.dis, k.below h.below h.below.size (fun i hk => ?_), lo, hi, Nat.le_trans hs k.size⟩
  · have := h.own1.lt i hk; simp; omega
  · have := h.own2.lt i hk; simp; omega
  · simp only [List.mem_cons, List.not_mem_nil, or_false] at hk; omega
theorem OrdAt.app1 {w w2 w3 : World} {B b cu cn n : Nat} {cl : Bool} {f t f' : Value} {F T U N : List Int} {x : Int} {o : Obj} (h : OrdAt w B w2 b cu cn n cl f t F T U N) (ho : OwnI B w3 f' (F ++ [x])) (hg : (w2.alloc o).grownBy w3 f.ownBlock)
    (hd : f'.ownBlock = f.ownBlock ∨ ∃ k, f'.ownBlock = some k ∧ (w2.alloc o).heap.size ≤ k) : OrdAt w B w3 b cu cn n cl f' t (F ++ [x]) T U N := by
  have hi := h.hi
  have lo := h.lo
  have hs := h.sz
  have k := upd_grown hg
  have hb : ∀ i, i ∈ f.ownBlock.toList → B ≤ i := fun i hi => (h.own1.lt i (by simpa using hi)).1
  refine ⟨(h.feed.upd (upd_alloc [] _ o) (by simp) (by simp) (by simp)).upd k (fun c => by have := hb _ c; omega) (fun c => by have := hb _ c; omega) (fun c => by have := hb _ c; omega), ho,
    (h.own2.upd (upd_alloc [] _ o) (by simp)).upd k (fun i hk hc => ?_), fun i hk => ?_, k.below (h.below.alloc h.below.size o) (by have := h.below.size; rw [World.size_alloc]; omega) (fun i hk => ?_), lo, hi, by have := k.size; rw [World.size_alloc] at this; omega⟩
  · exact h.dis i (by simpa using hc) hk
  · rcases hd with hd | ⟨j, hj, hd⟩
    · rw [hd] at hk; exact h.dis i hk
    · rw [hk] at hj
      intro hc
      have := h.own2.lt i hc
      simp only [Option.some.injEq] at hj
      rw [World.size_alloc] at hd
      omega
  · have := hb i hk; omega
theorem OrdAt.app2 {w w2 w3 : World} {B b cu cn n : Nat} {cl : Bool} {f t t' : Value} {F T U N : List Int} {x : Int} {o : Obj} (h : OrdAt w B w2 b cu cn n cl f t F T U N) (ho : OwnI B w3 t' (T ++ [x])) (hg : (w2.alloc o).grownBy w3 t.ownBlock)
    (hd : t'.ownBlock = t.ownBlock ∨ ∃ k, t'.ownBlock = some k ∧ (w2.alloc o).heap.size ≤ k) : OrdAt w B w3 b cu cn n cl f t' F (T ++ [x]) U N := by
  have hi := h.hi
  have lo := h.lo
  have hs := h.sz
  have k := upd_grown hg
  have hb : ∀ i, i ∈ t.ownBlock.toList → B ≤ i := fun i hi => (h.own2.lt i (by simpa using hi)).1
  refine ⟨(h.feed.upd (upd_alloc [] _ o) (by simp) (by simp) (by simp)).upd k (fun c => by have := hb _ c; omega) (fun c => by have := hb _ c; omega) (fun c => by have := hb _ c; omega),
    (h.own1.upd (upd_alloc [] _ o) (by simp)).upd k (fun i hk hc => ?_), ho, fun i hk => ?_, k.below (h.below.alloc h.below.size o) (by have := h.below.size; rw [World.size_alloc]; omega) (fun i hk => ?_), lo, hi, by have := k.size; rw [World.size_alloc] at this; omega⟩
  · exact h.dis i hk (by simpa using hc)
  · rcases hd with hd | ⟨j, hj, hd⟩
    · rw [hd]; exact h.dis i hk
    · intro hc
      rw [hc] at hj
      have := h.own1.lt i hk
      simp only [Option.some.injEq] at hj
      rw [World.size_alloc] at hd
      omega
  · have := hb i hk; omega

/-- Behind the loops' ends: what was taken out, what was put in. -/
structure EndAt (w wr : World) (b cu cn n : Nat) (g h : Value) (Q : List Int) : Prop where
  feed : FeedAt wr b cu cn n [] [] true
  got : IntsAt wr g Q
  want : IntsAt wr h Q
  below : Below w.heap.size w wr
theorem EndAt.drew {w wr : World} {b cu cn n : Nat} {g h : Value} {Q : List Int} (e : EndAt w wr b cu cn n g h Q) : EndAt w wr.drew b cu cn n g h Q :=
  ⟨e.feed.drew, e.got.below ((Below.refl _ _).drew), e.want.below ((Below.refl _ _).drew), e.below.drew⟩
theorem EndAt.of {w w4 w5 w6 : World} {B b cu cn n : Nat} {f t g h' : Value} {F T : List Int} (ho : OrdAt w B w4 b cu cn n true f t F T F T) (hr : RestAt w4 w5 b cu cn n true g (F ++ T) [] []) (hw : OwnI B w6 h' (F ++ T)) (hg : w5.grownBy w6 f.ownBlock) :
    EndAt w w6 b cu cn n g h' (F ++ T) := by
  have hi := ho.hi
  have k := upd_grown hg
  have hs := ho.sz
  have hlt : ∀ i, i ∈ f.ownBlock.toList → B ≤ i ∧ i < w4.heap.size := fun i hi => ho.own1.lt i (by simpa using hi)
  refine ⟨hr.feed.upd k (fun c => by have := hlt _ c; omega) (fun c => by have := hlt _ c; omega) (fun c => by have := hlt _ c; omega), (hr.own.upd k (fun i hk hc => ?_)).at, hw.at, ?_⟩
  · have := hlt i hc
    have := (hr.own.lt i hk).1
    omega
  · have h5 : OrdAt w B w5 b cu cn n true f t F T [] [] := ho.upd hr.feed (two3 hr.upd)
    exact k.below h5.below h5.below.size (fun i hk => by have := hlt i hk; have := ho.lo; omega)

set_option maxRecDepth 100000 in
theorem orders_none (n : Int) (v1 v2 : Value) (hn : n < 1 ∨ 256 < n) (w : World) : Calls Try.prog 3 #[.int .i64 n, v1, v2] w fun e w' => e = .returned (.bool true) ∧ Below w.heap.size w w' := by
  have C := Lib.hid (new_none n hn w)
  have A := Lib.hid (alive19_any w)
  by_cases h1 : n < 1
  · have d1 : decide (n < 1) = true := decide_eq_true h1
    clear hn h1
    go_enter Try.func3, Try.ntmps3
    go_wp2_with (first
      | (go_at_call 6; (with_reducible refine C.out.mono ?_); rintro e w1 ⟨rfl, rfl⟩)
      | (go_at_call 7; (with_reducible refine A.out.mono ?_); rintro e w1 ⟨rfl, hb⟩; have HB := Lib.hid hb; clear hb))
    go_ret
    exact ⟨rfl, HB.out⟩
  · have d1 : decide (n < 1) = false := decide_eq_false h1
    have d2 : decide (256 < n) = true := decide_eq_true (by omega)
    clear hn h1
    go_enter Try.func3, Try.ntmps3
    go_wp2_with (first
      | (go_at_call 6; (with_reducible refine C.out.mono ?_); rintro e w1 ⟨rfl, rfl⟩)
      | (go_at_call 7; (with_reducible refine A.out.mono ?_); rintro e w1 ⟨rfl, hb⟩; have HB := Lib.hid hb; clear hb))
    go_ret
    exact ⟨rfl, HB.out⟩

set_option maxRecDepth 100000 in
set_option maxHeartbeats 16000000 in
theorem orders_walk (n : Nat) (hn1 : 1 ≤ n) (hn2 : n ≤ 256) (xs : List Int) (us : List Bool) (v1 v2 : Value) (w : World) (hx : IntsAt w v1 xs) (hu : BoolsAt w v2 us) :
    Calls Try.prog 3 #[.int .i64 (n : Int), v1, v2] w fun e w' => e = .returned (.bool true) ∧ Below w.heap.size w w' := by
  obtain ⟨a1, cap1, rfl, hc1⟩ := hx.form
  obtain ⟨a2, cap2, rfl, hc2⟩ := hu.form
  have HC1 := Lib.hid hc1
  have HC2 := Lib.hid hc2
  have HNew := Lib.hid (new_any n hn1 hn2 w)
  have HN := Lib.hid hn2
  clear hx hu hc1 hc2 hn1 hn2
  go_enter Try.func3, Try.ntmps3
  go_wp2_with (go_at_call 6; (with_reducible refine HNew.out.mono ?_); rintro e w1 ⟨v, rfl, hN⟩
               obtain ⟨b, cu, cn, rfl, hf, q1, q2, q3⟩ := hN.ex
               have H0 := Lib.hid (OrdAt.start hf hN.below q1 q2 q3)
               clear hf hN q1 q2 q3)
  go_loopw [8, 9, 10] (fun f t i wr => ∃ (k : Nat) (U N : List Int), i = .int .i64 k ∧ k ≤ 2000 ∧ OrdAt w w1.heap.size wr b cu cn n false f t U N U N) (fun _ _ i _ => (2000 - intOf i).toNat)
  case atStart => exact ⟨0, [], [], rfl, by omega, H0.out⟩
  case round =>
    obtain ⟨k, U, N, rfl, hk, hO⟩ := hrel
    clear H0
    have HO := Lib.hid hO
    by_cases hall : k < xs.length ∧ k < us.length ∧ k < 2000
    · obtain ⟨q1, q2, q3⟩ := hall
      obtain ⟨b1, off1, rfl, hcell1⟩ := HC1.out (by omega)
      obtain ⟨b2, off2, rfl, hcell2⟩ := HC2.out (by omega)
      have HCx : Hid (∀ W, Below w.heap.size w W → W.cell? ⟨b1, off1 + k, none⟩ = some (.int .i64 xs[k])) := fun W hW => by
        rw [hW.cell (World.block_lt_of_cell? w _ (hcell1 k q1))]; exact hcell1 k q1
      have HCu : Hid (∀ W, Below w.heap.size w W → W.cell? ⟨b2, off2 + k, none⟩ = some (.bool us[k])) := fun W hW => by
        rw [hW.cell (World.block_lt_of_cell? w _ (hcell2 k q2))]; exact hcell2 k q2
      have d1 : decide (k < xs.length) = true := decide_eq_true q1
      have d2 : decide (k < us.length) = true := decide_eq_true q2
      have d3 : decide ((k : Int) < 2000) = true := by simp; omega
      have k0 : (0 : Int) ≤ k := by omega
      have k1 : (k : Int) < xs.length := by omega
      have k2 : (k : Int) < us.length := by omega
      have e9 : IntKind.i64.wrap ((k : Int) + 1) = ((k + 1 : Nat) : Int) := by rw [IntWalk.i64_in _ (by omega)]; omega
      have HK : Hid (k < 2000) := q3
      generalize xs[k] = x at *
      generalize us[k] = u at *
      obtain ⟨af, capf, hff, -⟩ := hO.own1.at.form
      obtain ⟨at', capt, htt, -⟩ := hO.own2.at.form
      subst hff htt
      have cx0 := HCx.out _ hO.below.drew
      have cu0 := HCu.out _ hO.below.drew
      have hlu := hO.feed.lu
      have hln := hO.feed.ln
      have h256 := HN.out
      clear hcell1 hcell2 hk q1 q2 q3
      cases u
      · by_cases hroom : N.length < n
        · have c := push_any b cu cn n U N false x false wr.drew hO.feed.drew
          rw [show pushE n U N false false = 0 by simp [pushE, hroom], show pushU n U false false x = U by simp [pushU, hroom], show pushN n N false false x = N ++ [x] by simp [pushN, hroom]] at c
          have C := Lib.hid c
          have hOd : OrdAt w w1.heap.size wr.drew b cu cn n false (.slice af U.length capf) (.slice at' N.length capt) U N U N := hO.upd hO.feed.drew (upd_drew _ _)
          have HS : Hid (N.length + 1 ≤ 1000000) := by show _ ≤ _; omega
          clear c hroom hO HO hlu hln h256
          go_wp2_with fail
          refine wp_region_noPanic ?_
          refine wp_region_held_drew (S := fun W => W.cell? ⟨b1, off1 + k, none⟩ = some (.int .i64 x) ∧ W.cell? ⟨b2, off2 + k, none⟩ = some (.bool false)) (by kernel_rfl) ?_ (fun hHeld => ?_)
          · exact ⟨cx0, cu0⟩
          refine wpAnyH_take (i := 0) (oi := { dst := some 46, op := Op.move (Operand.tmp 7), type := 24, pos := "outright.go:31", after := #[], guard := none }) (v := ?_) rfl (by kernel_rfl) (by kernel_rfl) (by kernel_rfl) (fun _ _ _ h => h) (Or.inl ⟨by rfl, ?_⟩) (by assumption) ?_
          rotate_left
          · (intro w9 hS9; (try dsimp only at hS9); go_simp); all_goals (with_reducible rfl)
          (try simp only [Act.put, List.setIfInBounds_toArray, List.set_cons_zero, List.set_cons_succ])
          refine wpAnyH_take (i := 1) (oi := { dst := some 47, op := Op.move (Operand.tmp 1), type := 22, pos := "outright.go:31", after := #[], guard := none }) (v := ?_) rfl (by kernel_rfl) (by kernel_rfl) (by kernel_rfl) (fun _ _ _ h => h) (Or.inl ⟨by rfl, ?_⟩) (by assumption) ?_
          rotate_left
          · (intro w9 hS9; (try dsimp only at hS9); go_simp); all_goals (with_reducible rfl)
          (try simp only [Act.put, List.setIfInBounds_toArray, List.set_cons_zero, List.set_cons_succ])
          refine wpAnyH_take (i := 2) (oi := { dst := some 48, op := Op.move (Operand.tmp 10), type := 3, pos := "outright.go:31", after := #[], guard := none }) (v := ?_) rfl (by kernel_rfl) (by kernel_rfl) (by kernel_rfl) (fun _ _ _ h => h) (Or.inl ⟨by rfl, ?_⟩) (by assumption) ?_
          rotate_left
          · (intro w9 hS9; (try dsimp only at hS9); go_simp); all_goals (with_reducible rfl)
          (try simp only [Act.put, List.setIfInBounds_toArray, List.set_cons_zero, List.set_cons_succ])
          refine wpAnyH_take (i := 3) (oi := { dst := some 49, op := Op.indexAddr 22 (Operand.tmp 47) (Operand.tmp 48), type := 0, pos := "outright.go:31", after := #[{ on := 1, ground := Ground.data }, { on := 2, ground := Ground.data }], guard := none }) (v := ?_) rfl (by kernel_rfl) (by kernel_rfl) (by kernel_rfl) (fun _ _ _ h => h) (Or.inl ⟨by rfl, ?_⟩) (by assumption) ?_
          rotate_left
          · (intro w9 hS9; (try dsimp only at hS9); go_simp); all_goals (with_reducible rfl)
          (try simp only [Act.put, List.setIfInBounds_toArray, List.set_cons_zero, List.set_cons_succ])
          refine wpAnyH_take (i := 4) (oi := { dst := some 50, op := Op.load 3 (Operand.tmp 49), type := 3, pos := "outright.go:31", after := #[{ on := 3, ground := Ground.data }], guard := none }) (v := ?_) rfl (by kernel_rfl) (by kernel_rfl) (by kernel_rfl) (fun _ _ _ h => h) (Or.inl ⟨by rfl, ?_⟩) (by assumption) ?_
          rotate_left
          · (intro w9 hS9; (try dsimp only at hS9); go_simp); all_goals (with_reducible rfl)
          (try simp only [Act.put, List.setIfInBounds_toArray, List.set_cons_zero, List.set_cons_succ])
          refine wpAnyH_take (i := 5) (oi := { dst := some 51, op := Op.move (Operand.tmp 2), type := 23, pos := "outright.go:31", after := #[], guard := none }) (v := ?_) rfl (by kernel_rfl) (by kernel_rfl) (by kernel_rfl) (fun _ _ _ h => h) (Or.inl ⟨by rfl, ?_⟩) (by assumption) ?_
          rotate_left
          · (intro w9 hS9; (try dsimp only at hS9); go_simp); all_goals (with_reducible rfl)
          (try simp only [Act.put, List.setIfInBounds_toArray, List.set_cons_zero, List.set_cons_succ])
          refine wpAnyH_take (i := 6) (oi := { dst := some 52, op := Op.move (Operand.tmp 10), type := 3, pos := "outright.go:31", after := #[], guard := none }) (v := ?_) rfl (by kernel_rfl) (by kernel_rfl) (by kernel_rfl) (fun _ _ _ h => h) (Or.inl ⟨by rfl, ?_⟩) (by assumption) ?_
          rotate_left
          · (intro w9 hS9; (try dsimp only at hS9); go_simp); all_goals (with_reducible rfl)
          (try simp only [Act.put, List.setIfInBounds_toArray, List.set_cons_zero, List.set_cons_succ])
          refine wpAnyH_take (i := 7) (oi := { dst := some 53, op := Op.indexAddr 23 (Operand.tmp 51) (Operand.tmp 52), type := 0, pos := "outright.go:31", after := #[{ on := 5, ground := Ground.data }, { on := 6, ground := Ground.data }], guard := none }) (v := ?_) rfl (by kernel_rfl) (by kernel_rfl) (by kernel_rfl) (fun _ _ _ h => h) (Or.inl ⟨by rfl, ?_⟩) (by assumption) ?_
          rotate_left
          · (intro w9 hS9; (try dsimp only at hS9); go_simp); all_goals (with_reducible rfl)
          (try simp only [Act.put, List.setIfInBounds_toArray, List.set_cons_zero, List.set_cons_succ])
          refine wpAnyH_take (i := 8) (oi := { dst := some 54, op := Op.load 4 (Operand.tmp 53), type := 4, pos := "outright.go:31", after := #[{ on := 7, ground := Ground.data }], guard := none }) (v := ?_) rfl (by kernel_rfl) (by kernel_rfl) (by kernel_rfl) (fun _ _ _ h => h) (Or.inl ⟨by rfl, ?_⟩) (by assumption) ?_
          rotate_left
          · (intro w9 hS9; (try dsimp only at hS9); go_simp); all_goals (with_reducible rfl)
          (try simp only [Act.put, List.setIfInBounds_toArray, List.set_cons_zero, List.set_cons_succ])
          refine wpAnyH_ready (rs := [9]) (by kernel_rfl) (by simp) ?_
          refine AllReadyH.cons (o := { dst := some 55, op := Op.call { callee := Callee.value (Operand.func 8), args := #[Operand.tmp 46, Operand.tmp 50, Operand.tmp 54], argTypes := #[24, 3, 4] }, type := 27, pos := "outright.go:31", after := #[{ on := 0, ground := Ground.data }, { on := 4, ground := Ground.data }, { on := 8, ground := Ground.data }], guard := none }) rfl (fun K hK => ?_) ?_
          · go_simp
            (with_reducible refine C.out.mono ?_)
            rintro e w2 ⟨rfl, hf, hu⟩
            have HO2 := Lib.hid ((hOd.upd hf (two3 hu)))
            have cx2 := HCx.out _ HO2.out.below
            have cu2 := HCu.out _ HO2.out.below
            clear hf hu C hOd
            (try go_wp2_with fail)
            refine hK.out _ _ ?_ (fun hHeld => ?_)
            · (first | exact ⟨cx0, cu0⟩ | exact ⟨cx2, cu2⟩)
            clear hK K
            (try simp only [Act.put, List.setIfInBounds_toArray, List.set_cons_zero, List.set_cons_succ])
            refine wpAnyH_take (i := 10) (oi := { dst := some 11, op := Op.assign (Operand.tmp 55), type := 27, pos := "outright.go:31", after := #[{ on := 9, ground := Ground.data }, { on := 9, ground := Ground.chain }, { on := 0, ground := Ground.phase }, { on := 1, ground := Ground.phase }, { on := 2, ground := Ground.phase }, { on := 3, ground := Ground.phase }, { on := 4, ground := Ground.phase }, { on := 5, ground := Ground.phase }, { on := 6, ground := Ground.phase }, { on := 7, ground := Ground.phase }, { on := 8, ground := Ground.phase }, { on := 9, ground := Ground.phase }], guard := none }) (v := ?_) rfl (by kernel_rfl) (by kernel_rfl) (by kernel_rfl) (fun _ _ _ h => h) (Or.inl ⟨by rfl, ?_⟩) (by assumption) ?_
            rotate_left
            · (intro w9 hS9; (try dsimp only at hS9); go_simp); all_goals (with_reducible rfl)
            (try simp only [Act.put, List.setIfInBounds_toArray, List.set_cons_zero, List.set_cons_succ])
            refine wpAnyH_done (by kernel_rfl) (NoPanic.normal ?_) _
            go_wp2_with (at_builtin; refine wpList_append_ints rfl (.tmp 80) (.tmp 85) rfl w1.heap.size (w2.alloc (.cells #[.int .i64 x] 3)) (.slice at' N.length capt) (.slice (some ⟨w2.heap.size, 0, none⟩) 1 1) rfl rfl N [x] (World.ownsRow.alloc HO2.out.own2 _) (one_at w2 x) HS.out (by have := HO2.out.sz; rw [World.size_alloc]; omega) ?_
                         intro v' w3 hown hgrow hdis
                         have HO3 := Lib.hid (HO2.out.app2 hown hgrow hdis)
                         have cx3 := HCx.out _ HO3.out.below
                         have cu3 := HCu.out _ HO3.out.below
                         clear hown hgrow hdis)
            go_roundw
            case rel => exact ⟨k + 1, U, N ++ [x], rfl, HK.out, HO3.out⟩
            case measure => have := HK.out; simp [intOf]; omega
          exact AllReadyH.nil
        · have c := push_any b cu cn n U N false x false wr.drew hO.feed.drew
          rw [show pushE n U N false false = 5 by simp [pushE, hroom], show pushU n U false false x = U by simp [pushU, hroom], show pushN n N false false x = N by simp [pushN, hroom]] at c
          have C := Lib.hid c
          have hOd : OrdAt w w1.heap.size wr.drew b cu cn n false (.slice af U.length capf) (.slice at' N.length capt) U N U N := hO.upd hO.feed.drew (upd_drew _ _)
          have d5 : decide (N.length < n) = false := decide_eq_false hroom
          clear c hroom hO HO hlu hln h256
          go_wp2_with fail
          refine wp_region_noPanic ?_
          refine wp_region_held_drew (S := fun W => W.cell? ⟨b1, off1 + k, none⟩ = some (.int .i64 x) ∧ W.cell? ⟨b2, off2 + k, none⟩ = some (.bool false)) (by kernel_rfl) ?_ (fun hHeld => ?_)
          · exact ⟨cx0, cu0⟩
          refine wpAnyH_take (i := 0) (oi := { dst := some 46, op := Op.move (Operand.tmp 7), type := 24, pos := "outright.go:31", after := #[], guard := none }) (v := ?_) rfl (by kernel_rfl) (by kernel_rfl) (by kernel_rfl) (fun _ _ _ h => h) (Or.inl ⟨by rfl, ?_⟩) (by assumption) ?_
          rotate_left
          · (intro w9 hS9; (try dsimp only at hS9); go_simp); all_goals (with_reducible rfl)
          (try simp only [Act.put, List.setIfInBounds_toArray, List.set_cons_zero, List.set_cons_succ])
          refine wpAnyH_take (i := 1) (oi := { dst := some 47, op := Op.move (Operand.tmp 1), type := 22, pos := "outright.go:31", after := #[], guard := none }) (v := ?_) rfl (by kernel_rfl) (by kernel_rfl) (by kernel_rfl) (fun _ _ _ h => h) (Or.inl ⟨by rfl, ?_⟩) (by assumption) ?_
          rotate_left
          · (intro w9 hS9; (try dsimp only at hS9); go_simp); all_goals (with_reducible rfl)
          (try simp only [Act.put, List.setIfInBounds_toArray, List.set_cons_zero, List.set_cons_succ])
          refine wpAnyH_take (i := 2) (oi := { dst := some 48, op := Op.move (Operand.tmp 10), type := 3, pos := "outright.go:31", after := #[], guard := none }) (v := ?_) rfl (by kernel_rfl) (by kernel_rfl) (by kernel_rfl) (fun _ _ _ h => h) (Or.inl ⟨by rfl, ?_⟩) (by assumption) ?_
          rotate_left
          · (intro w9 hS9; (try dsimp only at hS9); go_simp); all_goals (with_reducible rfl)
          (try simp only [Act.put, List.setIfInBounds_toArray, List.set_cons_zero, List.set_cons_succ])
          refine wpAnyH_take (i := 3) (oi := { dst := some 49, op := Op.indexAddr 22 (Operand.tmp 47) (Operand.tmp 48), type := 0, pos := "outright.go:31", after := #[{ on := 1, ground := Ground.data }, { on := 2, ground := Ground.data }], guard := none }) (v := ?_) rfl (by kernel_rfl) (by kernel_rfl) (by kernel_rfl) (fun _ _ _ h => h) (Or.inl ⟨by rfl, ?_⟩) (by assumption) ?_
          rotate_left
          · (intro w9 hS9; (try dsimp only at hS9); go_simp); all_goals (with_reducible rfl)
          (try simp only [Act.put, List.setIfInBounds_toArray, List.set_cons_zero, List.set_cons_succ])
          refine wpAnyH_take (i := 4) (oi := { dst := some 50, op := Op.load 3 (Operand.tmp 49), type := 3, pos := "outright.go:31", after := #[{ on := 3, ground := Ground.data }], guard := none }) (v := ?_) rfl (by kernel_rfl) (by kernel_rfl) (by kernel_rfl) (fun _ _ _ h => h) (Or.inl ⟨by rfl, ?_⟩) (by assumption) ?_
          rotate_left
          · (intro w9 hS9; (try dsimp only at hS9); go_simp); all_goals (with_reducible rfl)
          (try simp only [Act.put, List.setIfInBounds_toArray, List.set_cons_zero, List.set_cons_succ])
          refine wpAnyH_take (i := 5) (oi := { dst := some 51, op := Op.move (Operand.tmp 2), type := 23, pos := "outright.go:31", after := #[], guard := none }) (v := ?_) rfl (by kernel_rfl) (by kernel_rfl) (by kernel_rfl) (fun _ _ _ h => h) (Or.inl ⟨by rfl, ?_⟩) (by assumption) ?_
          rotate_left
          · (intro w9 hS9; (try dsimp only at hS9); go_simp); all_goals (with_reducible rfl)
          (try simp only [Act.put, List.setIfInBounds_toArray, List.set_cons_zero, List.set_cons_succ])
          refine wpAnyH_take (i := 6) (oi := { dst := some 52, op := Op.move (Operand.tmp 10), type := 3, pos := "outright.go:31", after := #[], guard := none }) (v := ?_) rfl (by kernel_rfl) (by kernel_rfl) (by kernel_rfl) (fun _ _ _ h => h) (Or.inl ⟨by rfl, ?_⟩) (by assumption) ?_
          rotate_left
          · (intro w9 hS9; (try dsimp only at hS9); go_simp); all_goals (with_reducible rfl)
          (try simp only [Act.put, List.setIfInBounds_toArray, List.set_cons_zero, List.set_cons_succ])
          refine wpAnyH_take (i := 7) (oi := { dst := some 53, op := Op.indexAddr 23 (Operand.tmp 51) (Operand.tmp 52), type := 0, pos := "outright.go:31", after := #[{ on := 5, ground := Ground.data }, { on := 6, ground := Ground.data }], guard := none }) (v := ?_) rfl (by kernel_rfl) (by kernel_rfl) (by kernel_rfl) (fun _ _ _ h => h) (Or.inl ⟨by rfl, ?_⟩) (by assumption) ?_
          rotate_left
          · (intro w9 hS9; (try dsimp only at hS9); go_simp); all_goals (with_reducible rfl)
          (try simp only [Act.put, List.setIfInBounds_toArray, List.set_cons_zero, List.set_cons_succ])
          refine wpAnyH_take (i := 8) (oi := { dst := some 54, op := Op.load 4 (Operand.tmp 53), type := 4, pos := "outright.go:31", after := #[{ on := 7, ground := Ground.data }], guard := none }) (v := ?_) rfl (by kernel_rfl) (by kernel_rfl) (by kernel_rfl) (fun _ _ _ h => h) (Or.inl ⟨by rfl, ?_⟩) (by assumption) ?_
          rotate_left
          · (intro w9 hS9; (try dsimp only at hS9); go_simp); all_goals (with_reducible rfl)
          (try simp only [Act.put, List.setIfInBounds_toArray, List.set_cons_zero, List.set_cons_succ])
          refine wpAnyH_ready (rs := [9]) (by kernel_rfl) (by simp) ?_
          refine AllReadyH.cons (o := { dst := some 55, op := Op.call { callee := Callee.value (Operand.func 8), args := #[Operand.tmp 46, Operand.tmp 50, Operand.tmp 54], argTypes := #[24, 3, 4] }, type := 27, pos := "outright.go:31", after := #[{ on := 0, ground := Ground.data }, { on := 4, ground := Ground.data }, { on := 8, ground := Ground.data }], guard := none }) rfl (fun K hK => ?_) ?_
          · go_simp
            (with_reducible refine C.out.mono ?_)
            rintro e w2 ⟨rfl, hf, hu⟩
            have HO2 := Lib.hid ((hOd.upd hf (two3 hu)))
            have cx2 := HCx.out _ HO2.out.below
            have cu2 := HCu.out _ HO2.out.below
            clear hf hu C hOd
            (try go_wp2_with fail)
            refine hK.out _ _ ?_ (fun hHeld => ?_)
            · (first | exact ⟨cx0, cu0⟩ | exact ⟨cx2, cu2⟩)
            clear hK K
            (try simp only [Act.put, List.setIfInBounds_toArray, List.set_cons_zero, List.set_cons_succ])
            refine wpAnyH_take (i := 10) (oi := { dst := some 11, op := Op.assign (Operand.tmp 55), type := 27, pos := "outright.go:31", after := #[{ on := 9, ground := Ground.data }, { on := 9, ground := Ground.chain }, { on := 0, ground := Ground.phase }, { on := 1, ground := Ground.phase }, { on := 2, ground := Ground.phase }, { on := 3, ground := Ground.phase }, { on := 4, ground := Ground.phase }, { on := 5, ground := Ground.phase }, { on := 6, ground := Ground.phase }, { on := 7, ground := Ground.phase }, { on := 8, ground := Ground.phase }, { on := 9, ground := Ground.phase }], guard := none }) (v := ?_) rfl (by kernel_rfl) (by kernel_rfl) (by kernel_rfl) (fun _ _ _ h => h) (Or.inl ⟨by rfl, ?_⟩) (by assumption) ?_
            rotate_left
            · (intro w9 hS9; (try dsimp only at hS9); go_simp); all_goals (with_reducible rfl)
            (try simp only [Act.put, List.setIfInBounds_toArray, List.set_cons_zero, List.set_cons_succ])
            refine wpAnyH_done (by kernel_rfl) (NoPanic.normal ?_) _
            go_wp2_with fail
            go_roundw
            case rel => exact ⟨k + 1, U, N, rfl, HK.out, HO2.out⟩
            case measure => have := HK.out; simp [intOf]; omega
          exact AllReadyH.nil
      · by_cases hroom : U.length < n
        · have c := push_any b cu cn n U N false x true wr.drew hO.feed.drew
          rw [show pushE n U N false true = 0 by simp [pushE, hroom], show pushU n U false true x = U ++ [x] by simp [pushU, hroom], show pushN n N false true x = N by simp [pushN, hroom]] at c
          have C := Lib.hid c
          have hOd : OrdAt w w1.heap.size wr.drew b cu cn n false (.slice af U.length capf) (.slice at' N.length capt) U N U N := hO.upd hO.feed.drew (upd_drew _ _)
          have HS : Hid (U.length + 1 ≤ 1000000) := by show _ ≤ _; omega
          clear c hroom hO HO hlu hln h256
          go_wp2_with fail
          refine wp_region_noPanic ?_
          refine wp_region_held_drew (S := fun W => W.cell? ⟨b1, off1 + k, none⟩ = some (.int .i64 x) ∧ W.cell? ⟨b2, off2 + k, none⟩ = some (.bool true)) (by kernel_rfl) ?_ (fun hHeld => ?_)
          · exact ⟨cx0, cu0⟩
          refine wpAnyH_take (i := 0) (oi := { dst := some 46, op := Op.move (Operand.tmp 7), type := 24, pos := "outright.go:31", after := #[], guard := none }) (v := ?_) rfl (by kernel_rfl) (by kernel_rfl) (by kernel_rfl) (fun _ _ _ h => h) (Or.inl ⟨by rfl, ?_⟩) (by assumption) ?_
          rotate_left
          · (intro w9 hS9; (try dsimp only at hS9); go_simp); all_goals (with_reducible rfl)
          (try simp only [Act.put, List.setIfInBounds_toArray, List.set_cons_zero, List.set_cons_succ])
          refine wpAnyH_take (i := 1) (oi := { dst := some 47, op := Op.move (Operand.tmp 1), type := 22, pos := "outright.go:31", after := #[], guard := none }) (v := ?_) rfl (by kernel_rfl) (by kernel_rfl) (by kernel_rfl) (fun _ _ _ h => h) (Or.inl ⟨by rfl, ?_⟩) (by assumption) ?_
          rotate_left
          · (intro w9 hS9; (try dsimp only at hS9); go_simp); all_goals (with_reducible rfl)
          (try simp only [Act.put, List.setIfInBounds_toArray, List.set_cons_zero, List.set_cons_succ])
          refine wpAnyH_take (i := 2) (oi := { dst := some 48, op := Op.move (Operand.tmp 10), type := 3, pos := "outright.go:31", after := #[], guard := none }) (v := ?_) rfl (by kernel_rfl) (by kernel_rfl) (by kernel_rfl) (fun _ _ _ h => h) (Or.inl ⟨by rfl, ?_⟩) (by assumption) ?_
          rotate_left
          · (intro w9 hS9; (try dsimp only at hS9); go_simp); all_goals (with_reducible rfl)
          (try simp only [Act.put, List.setIfInBounds_toArray, List.set_cons_zero, List.set_cons_succ])
          refine wpAnyH_take (i := 3) (oi := { dst := some 49, op := Op.indexAddr 22 (Operand.tmp 47) (Operand.tmp 48), type := 0, pos := "outright.go:31", after := #[{ on := 1, ground := Ground.data }, { on := 2, ground := Ground.data }], guard := none }) (v := ?_) rfl (by kernel_rfl) (by kernel_rfl) (by kernel_rfl) (fun _ _ _ h => h) (Or.inl ⟨by rfl, ?_⟩) (by assumption) ?_
          rotate_left
          · (intro w9 hS9; (try dsimp only at hS9); go_simp); all_goals (with_reducible rfl)
          (try simp only [Act.put, List.setIfInBounds_toArray, List.set_cons_zero, List.set_cons_succ])
          refine wpAnyH_take (i := 4) (oi := { dst := some 50, op := Op.load 3 (Operand.tmp 49), type := 3, pos := "outright.go:31", after := #[{ on := 3, ground := Ground.data }], guard := none }) (v := ?_) rfl (by kernel_rfl) (by kernel_rfl) (by kernel_rfl) (fun _ _ _ h => h) (Or.inl ⟨by rfl, ?_⟩) (by assumption) ?_
          rotate_left
          · (intro w9 hS9; (try dsimp only at hS9); go_simp); all_goals (with_reducible rfl)
          (try simp only [Act.put, List.setIfInBounds_toArray, List.set_cons_zero, List.set_cons_succ])
          refine wpAnyH_take (i := 5) (oi := { dst := some 51, op := Op.move (Operand.tmp 2), type := 23, pos := "outright.go:31", after := #[], guard := none }) (v := ?_) rfl (by kernel_rfl) (by kernel_rfl) (by kernel_rfl) (fun _ _ _ h => h) (Or.inl ⟨by rfl, ?_⟩) (by assumption) ?_
          rotate_left
          · (intro w9 hS9; (try dsimp only at hS9); go_simp); all_goals (with_reducible rfl)
          (try simp only [Act.put, List.setIfInBounds_toArray, List.set_cons_zero, List.set_cons_succ])
          refine wpAnyH_take (i := 6) (oi := { dst := some 52, op := Op.move (Operand.tmp 10), type := 3, pos := "outright.go:31", after := #[], guard := none }) (v := ?_) rfl (by kernel_rfl) (by kernel_rfl) (by kernel_rfl) (fun _ _ _ h => h) (Or.inl ⟨by rfl, ?_⟩) (by assumption) ?_
          rotate_left
          · (intro w9 hS9; (try dsimp only at hS9); go_simp); all_goals (with_reducible rfl)
          (try simp only [Act.put, List.setIfInBounds_toArray, List.set_cons_zero, List.set_cons_succ])
          refine wpAnyH_take (i := 7) (oi := { dst := some 53, op := Op.indexAddr 23 (Operand.tmp 51) (Operand.tmp 52), type := 0, pos := "outright.go:31", after := #[{ on := 5, ground := Ground.data }, { on := 6, ground := Ground.data }], guard := none }) (v := ?_) rfl (by kernel_rfl) (by kernel_rfl) (by kernel_rfl) (fun _ _ _ h => h) (Or.inl ⟨by rfl, ?_⟩) (by assumption) ?_
          rotate_left
          · (intro w9 hS9; (try dsimp only at hS9); go_simp); all_goals (with_reducible rfl)
          (try simp only [Act.put, List.setIfInBounds_toArray, List.set_cons_zero, List.set_cons_succ])
          refine wpAnyH_take (i := 8) (oi := { dst := some 54, op := Op.load 4 (Operand.tmp 53), type := 4, pos := "outright.go:31", after := #[{ on := 7, ground := Ground.data }], guard := none }) (v := ?_) rfl (by kernel_rfl) (by kernel_rfl) (by kernel_rfl) (fun _ _ _ h => h) (Or.inl ⟨by rfl, ?_⟩) (by assumption) ?_
          rotate_left
          · (intro w9 hS9; (try dsimp only at hS9); go_simp); all_goals (with_reducible rfl)
          (try simp only [Act.put, List.setIfInBounds_toArray, List.set_cons_zero, List.set_cons_succ])
          refine wpAnyH_ready (rs := [9]) (by kernel_rfl) (by simp) ?_
          refine AllReadyH.cons (o := { dst := some 55, op := Op.call { callee := Callee.value (Operand.func 8), args := #[Operand.tmp 46, Operand.tmp 50, Operand.tmp 54], argTypes := #[24, 3, 4] }, type := 27, pos := "outright.go:31", after := #[{ on := 0, ground := Ground.data }, { on := 4, ground := Ground.data }, { on := 8, ground := Ground.data }], guard := none }) rfl (fun K hK => ?_) ?_
          · go_simp
            (with_reducible refine C.out.mono ?_)
            rintro e w2 ⟨rfl, hf, hu⟩
            have HO2 := Lib.hid ((hOd.upd hf (two3 hu)))
            have cx2 := HCx.out _ HO2.out.below
            have cu2 := HCu.out _ HO2.out.below
            clear hf hu C hOd
            (try go_wp2_with fail)
            refine hK.out _ _ ?_ (fun hHeld => ?_)
            · (first | exact ⟨cx0, cu0⟩ | exact ⟨cx2, cu2⟩)
            clear hK K
            (try simp only [Act.put, List.setIfInBounds_toArray, List.set_cons_zero, List.set_cons_succ])
            refine wpAnyH_take (i := 10) (oi := { dst := some 11, op := Op.assign (Operand.tmp 55), type := 27, pos := "outright.go:31", after := #[{ on := 9, ground := Ground.data }, { on := 9, ground := Ground.chain }, { on := 0, ground := Ground.phase }, { on := 1, ground := Ground.phase }, { on := 2, ground := Ground.phase }, { on := 3, ground := Ground.phase }, { on := 4, ground := Ground.phase }, { on := 5, ground := Ground.phase }, { on := 6, ground := Ground.phase }, { on := 7, ground := Ground.phase }, { on := 8, ground := Ground.phase }, { on := 9, ground := Ground.phase }], guard := none }) (v := ?_) rfl (by kernel_rfl) (by kernel_rfl) (by kernel_rfl) (fun _ _ _ h => h) (Or.inl ⟨by rfl, ?_⟩) (by assumption) ?_
            rotate_left
            · (intro w9 hS9; (try dsimp only at hS9); go_simp); all_goals (with_reducible rfl)
            (try simp only [Act.put, List.setIfInBounds_toArray, List.set_cons_zero, List.set_cons_succ])
            refine wpAnyH_done (by kernel_rfl) (NoPanic.normal ?_) _
            go_wp2_with (at_builtin; refine wpList_append_ints rfl (.tmp 64) (.tmp 69) rfl w1.heap.size (w2.alloc (.cells #[.int .i64 x] 3)) (.slice af U.length capf) (.slice (some ⟨w2.heap.size, 0, none⟩) 1 1) rfl rfl U [x] (World.ownsRow.alloc HO2.out.own1 _) (one_at w2 x) HS.out (by have := HO2.out.sz; rw [World.size_alloc]; omega) ?_
                         intro v' w3 hown hgrow hdis
                         have HO3 := Lib.hid (HO2.out.app1 hown hgrow hdis)
                         have cx3 := HCx.out _ HO3.out.below
                         have cu3 := HCu.out _ HO3.out.below
                         clear hown hgrow hdis)
            go_roundw
            case rel => exact ⟨k + 1, U ++ [x], N, rfl, HK.out, HO3.out⟩
            case measure => have := HK.out; simp [intOf]; omega
          exact AllReadyH.nil
        · have c := push_any b cu cn n U N false x true wr.drew hO.feed.drew
          rw [show pushE n U N false true = 5 by simp [pushE, hroom], show pushU n U false true x = U by simp [pushU, hroom], show pushN n N false true x = N by simp [pushN, hroom]] at c
          have C := Lib.hid c
          have hOd : OrdAt w w1.heap.size wr.drew b cu cn n false (.slice af U.length capf) (.slice at' N.length capt) U N U N := hO.upd hO.feed.drew (upd_drew _ _)
          have d5 : decide (U.length < n) = false := decide_eq_false hroom
          clear c hroom hO HO hlu hln h256
          go_wp2_with fail
          refine wp_region_noPanic ?_
          refine wp_region_held_drew (S := fun W => W.cell? ⟨b1, off1 + k, none⟩ = some (.int .i64 x) ∧ W.cell? ⟨b2, off2 + k, none⟩ = some (.bool true)) (by kernel_rfl) ?_ (fun hHeld => ?_)
          · exact ⟨cx0, cu0⟩
          refine wpAnyH_take (i := 0) (oi := { dst := some 46, op := Op.move (Operand.tmp 7), type := 24, pos := "outright.go:31", after := #[], guard := none }) (v := ?_) rfl (by kernel_rfl) (by kernel_rfl) (by kernel_rfl) (fun _ _ _ h => h) (Or.inl ⟨by rfl, ?_⟩) (by assumption) ?_
          rotate_left
          · (intro w9 hS9; (try dsimp only at hS9); go_simp); all_goals (with_reducible rfl)
          (try simp only [Act.put, List.setIfInBounds_toArray, List.set_cons_zero, List.set_cons_succ])
          refine wpAnyH_take (i := 1) (oi := { dst := some 47, op := Op.move (Operand.tmp 1), type := 22, pos := "outright.go:31", after := #[], guard := none }) (v := ?_) rfl (by kernel_rfl) (by kernel_rfl) (by kernel_rfl) (fun _ _ _ h => h) (Or.inl ⟨by rfl, ?_⟩) (by assumption) ?_
          rotate_left
          · (intro w9 hS9; (try dsimp only at hS9); go_simp); all_goals (with_reducible rfl)
          (try simp only [Act.put, List.setIfInBounds_toArray, List.set_cons_zero, List.set_cons_succ])
          refine wpAnyH_take (i := 2) (oi := { dst := some 48, op := Op.move (Operand.tmp 10), type := 3, pos := "outright.go:31", after := #[], guard := none }) (v := ?_) rfl (by kernel_rfl) (by kernel_rfl) (by kernel_rfl) (fun _ _ _ h => h) (Or.inl ⟨by rfl, ?_⟩) (by assumption) ?_
          rotate_left
          · (intro w9 hS9; (try dsimp only at hS9); go_simp); all_goals (with_reducible rfl)
          (try simp only [Act.put, List.setIfInBounds_toArray, List.set_cons_zero, List.set_cons_succ])
          refine wpAnyH_take (i := 3) (oi := { dst := some 49, op := Op.indexAddr 22 (Operand.tmp 47) (Operand.tmp 48), type := 0, pos := "outright.go:31", after := #[{ on := 1, ground := Ground.data }, { on := 2, ground := Ground.data }], guard := none }) (v := ?_) rfl (by kernel_rfl) (by kernel_rfl) (by kernel_rfl) (fun _ _ _ h => h) (Or.inl ⟨by rfl, ?_⟩) (by assumption) ?_
          rotate_left
          · (intro w9 hS9; (try dsimp only at hS9); go_simp); all_goals (with_reducible rfl)
          (try simp only [Act.put, List.setIfInBounds_toArray, List.set_cons_zero, List.set_cons_succ])
          refine wpAnyH_take (i := 4) (oi := { dst := some 50, op := Op.load 3 (Operand.tmp 49), type := 3, pos := "outright.go:31", after := #[{ on := 3, ground := Ground.data }], guard := none }) (v := ?_) rfl (by kernel_rfl) (by kernel_rfl) (by kernel_rfl) (fun _ _ _ h => h) (Or.inl ⟨by rfl, ?_⟩) (by assumption) ?_
          rotate_left
          · (intro w9 hS9; (try dsimp only at hS9); go_simp); all_goals (with_reducible rfl)
          (try simp only [Act.put, List.setIfInBounds_toArray, List.set_cons_zero, List.set_cons_succ])
          refine wpAnyH_take (i := 5) (oi := { dst := some 51, op := Op.move (Operand.tmp 2), type := 23, pos := "outright.go:31", after := #[], guard := none }) (v := ?_) rfl (by kernel_rfl) (by kernel_rfl) (by kernel_rfl) (fun _ _ _ h => h) (Or.inl ⟨by rfl, ?_⟩) (by assumption) ?_
          rotate_left
          · (intro w9 hS9; (try dsimp only at hS9); go_simp); all_goals (with_reducible rfl)
          (try simp only [Act.put, List.setIfInBounds_toArray, List.set_cons_zero, List.set_cons_succ])
          refine wpAnyH_take (i := 6) (oi := { dst := some 52, op := Op.move (Operand.tmp 10), type := 3, pos := "outright.go:31", after := #[], guard := none }) (v := ?_) rfl (by kernel_rfl) (by kernel_rfl) (by kernel_rfl) (fun _ _ _ h => h) (Or.inl ⟨by rfl, ?_⟩) (by assumption) ?_
          rotate_left
          · (intro w9 hS9; (try dsimp only at hS9); go_simp); all_goals (with_reducible rfl)
          (try simp only [Act.put, List.setIfInBounds_toArray, List.set_cons_zero, List.set_cons_succ])
          refine wpAnyH_take (i := 7) (oi := { dst := some 53, op := Op.indexAddr 23 (Operand.tmp 51) (Operand.tmp 52), type := 0, pos := "outright.go:31", after := #[{ on := 5, ground := Ground.data }, { on := 6, ground := Ground.data }], guard := none }) (v := ?_) rfl (by kernel_rfl) (by kernel_rfl) (by kernel_rfl) (fun _ _ _ h => h) (Or.inl ⟨by rfl, ?_⟩) (by assumption) ?_
          rotate_left
          · (intro w9 hS9; (try dsimp only at hS9); go_simp); all_goals (with_reducible rfl)
          (try simp only [Act.put, List.setIfInBounds_toArray, List.set_cons_zero, List.set_cons_succ])
          refine wpAnyH_take (i := 8) (oi := { dst := some 54, op := Op.load 4 (Operand.tmp 53), type := 4, pos := "outright.go:31", after := #[{ on := 7, ground := Ground.data }], guard := none }) (v := ?_) rfl (by kernel_rfl) (by kernel_rfl) (by kernel_rfl) (fun _ _ _ h => h) (Or.inl ⟨by rfl, ?_⟩) (by assumption) ?_
          rotate_left
          · (intro w9 hS9; (try dsimp only at hS9); go_simp); all_goals (with_reducible rfl)
          (try simp only [Act.put, List.setIfInBounds_toArray, List.set_cons_zero, List.set_cons_succ])
          refine wpAnyH_ready (rs := [9]) (by kernel_rfl) (by simp) ?_
          refine AllReadyH.cons (o := { dst := some 55, op := Op.call { callee := Callee.value (Operand.func 8), args := #[Operand.tmp 46, Operand.tmp 50, Operand.tmp 54], argTypes := #[24, 3, 4] }, type := 27, pos := "outright.go:31", after := #[{ on := 0, ground := Ground.data }, { on := 4, ground := Ground.data }, { on := 8, ground := Ground.data }], guard := none }) rfl (fun K hK => ?_) ?_
          · go_simp
            (with_reducible refine C.out.mono ?_)
            rintro e w2 ⟨rfl, hf, hu⟩
            have HO2 := Lib.hid ((hOd.upd hf (two3 hu)))
            have cx2 := HCx.out _ HO2.out.below
            have cu2 := HCu.out _ HO2.out.below
            clear hf hu C hOd
            (try go_wp2_with fail)
            refine hK.out _ _ ?_ (fun hHeld => ?_)
            · (first | exact ⟨cx0, cu0⟩ | exact ⟨cx2, cu2⟩)
            clear hK K
            (try simp only [Act.put, List.setIfInBounds_toArray, List.set_cons_zero, List.set_cons_succ])
            refine wpAnyH_take (i := 10) (oi := { dst := some 11, op := Op.assign (Operand.tmp 55), type := 27, pos := "outright.go:31", after := #[{ on := 9, ground := Ground.data }, { on := 9, ground := Ground.chain }, { on := 0, ground := Ground.phase }, { on := 1, ground := Ground.phase }, { on := 2, ground := Ground.phase }, { on := 3, ground := Ground.phase }, { on := 4, ground := Ground.phase }, { on := 5, ground := Ground.phase }, { on := 6, ground := Ground.phase }, { on := 7, ground := Ground.phase }, { on := 8, ground := Ground.phase }, { on := 9, ground := Ground.phase }], guard := none }) (v := ?_) rfl (by kernel_rfl) (by kernel_rfl) (by kernel_rfl) (fun _ _ _ h => h) (Or.inl ⟨by rfl, ?_⟩) (by assumption) ?_
            rotate_left
            · (intro w9 hS9; (try dsimp only at hS9); go_simp); all_goals (with_reducible rfl)
            (try simp only [Act.put, List.setIfInBounds_toArray, List.set_cons_zero, List.set_cons_succ])
            refine wpAnyH_done (by kernel_rfl) (NoPanic.normal ?_) _
            go_wp2_with fail
            go_roundw
            case rel => exact ⟨k + 1, U, N, rfl, HK.out, HO2.out⟩
            case measure => have := HK.out; simp [intOf]; omega
          exact AllReadyH.nil
    · rcases (show ¬ k < xs.length ∨ (k < xs.length ∧ ¬ k < us.length) ∨ (k < xs.length ∧ k < us.length ∧ ¬ k < 2000) by omega) with q1 | ⟨q1, q2⟩ | ⟨q1, q2, q3⟩
      · have d1 : decide (k < xs.length) = false := decide_eq_false q1
        obtain ⟨af, capf, hff, -⟩ := hO.own1.at.form
        obtain ⟨at', capt, htt, -⟩ := hO.own2.at.form
        subst hff htt
        have HL : Hid (U.length + N.length ≤ 1000) := by show _ ≤ _; have := hO.feed.lu; have := hO.feed.ln; have := HN.out; omega
        have C1 := Lib.hid (close_open b cu cn n U N wr hO.feed)
        obtain ⟨Q, hQe⟩ : ∃ Q, U ++ N = Q := ⟨_, rfl⟩
        have HQe := Lib.hid hQe
        have HQ : Hid (Q.length ≤ 1000) := by show _ ≤ _; rw [← hQe, List.length_append]; exact HL.out
        clear hk hall hO hQe
        go_wp2_with (first
          | (go_at_call 9; (with_reducible refine C1.out.mono ?_); rintro e w4 ⟨rfl, hf, hu⟩
             have HO4 := Lib.hid (HO.out.upd hf hu)
             have C2 : Hid (Calls Try.prog 10 #[.pointer (some ⟨b, 0, none⟩), .int .i64 1000] w4 fun e w' => ∃ v, e = .returned v ∧ RestAt w4 w' b cu cn n true v (U ++ N) [] []) := rest_any b cu cn n U N true 1000 (Nat.le_refl _) HL.out w4 hf
             clear hf hu C1)
          | (go_at_call 10; (with_reducible refine C2.out.mono ?_); rintro e w5 ⟨g, rfl, hr⟩
             have HR5 := Lib.hid hr
             have HO5 := Lib.hid (HO4.out.upd hr.feed (two3 hr.upd))
             clear hr C2)
          | (at_builtin; refine wpList_append_ints rfl (.tmp 122) (.tmp 123) rfl w1.heap.size w5 (.slice af U.length capf) (.slice at' N.length capt) rfl rfl U N HO5.out.own1 HO5.out.own2.at (Nat.le_trans HL.out (by decide)) HO5.out.sz ?_
             intro v' w6 hown hgrow hdis
             have HE : Hid (EndAt w w6 b cu cn n g v' Q) := by show EndAt _ _ _ _ _ _ _ _ _; rw [← HQe.out]; exact EndAt.of HO4.out HR5.out hown hgrow
             obtain ⟨ag, capg, rfl, hg⟩ := HE.out.got.form
             obtain ⟨ah, caph, rfl, hh⟩ := HE.out.want.form
             clear hown hgrow hdis hg hh HR5 HO5 HO4 HO))
        go_loopw [14] (fun i wr => ∃ k : Nat, k ≤ Q.length ∧ i = .int .i64 k ∧ EndAt w wr b cu cn n (.slice ag Q.length capg) (.slice ah Q.length caph) Q) (fun i _ => ((Q.length : Int) - intOf i).toNat)
        case atStart => exact ⟨0, Nat.zero_le _, rfl, HE.out⟩
        case round =>
          obtain ⟨k, hk, rfl, hE⟩ := hrel
          clear HE
          have HE := Lib.hid hE
          by_cases hlt : k < Q.length
          · obtain ⟨a', cap', heq, hcell⟩ := hE.got.form
            simp only [Value.slice.injEq] at heq
            obtain ⟨rfl, -, rfl⟩ := heq
            obtain ⟨a', cap', heq, hcell'⟩ := hE.want.form
            simp only [Value.slice.injEq] at heq
            obtain ⟨rfl, -, rfl⟩ := heq
            obtain ⟨bg, og, rfl, hg⟩ := hcell (by omega)
            obtain ⟨bh, oh, rfl, hh⟩ := hcell' (by omega)
            have cg := hg k hlt
            have ch := hh k hlt
            have d1 : decide (k < Q.length) = true := decide_eq_true hlt
            have k0 : (0 : Int) ≤ k := by omega
            have k1 : (k : Int) < Q.length := by omega
            have e9 : IntKind.i64.wrap ((k : Int) + 1) = ((k + 1 : Nat) : Int) := by have := HQ.out; rw [IntWalk.i64_in _ (by omega)]; omega
            have HK : Hid (k < Q.length) := hlt
            generalize Q[k] = x at *
            clear hg hh hcell hcell' hk hE hlt
            go_wp2_with fail
            go_region
            all_goals (
              go_wp2_with fail
              go_roundw
              (case rel => exact ⟨k + 1, HK.out, rfl, HE.out.drew⟩)
              (case measure => have := HK.out; simp [intOf]; omega))
          · obtain rfl : k = Q.length := by omega
            have d1 : decide (Q.length < Q.length) = false := by simp
            have P1 : Hid (Calls Try.prog 11 #[.pointer (some ⟨b, 0, none⟩)] wr fun e w' => e = .returned (.tuple #[.int .i64 0, .int .i64 7]) ∧ wr = w') := pop_e b cu cn n true wr hE.feed
            have A1 := Lib.hid (alive19_any wr)
            clear hk hlt hE
            go_wp2_with (first
              | (go_at_call 11; (with_reducible refine P1.out.mono ?_); rintro e w7 ⟨rfl, rfl⟩)
              | (go_at_call 7; (with_reducible refine A1.out.mono ?_); rintro e w8 ⟨rfl, hb⟩
                 have hF8 := HE.out.feed.upd (Upd.of_below (l := []) hb) (by simp) (by simp) (by simp)
                 have HB8 := Lib.hid (HE.out.below.trans (hb.mono HE.out.below.size))
                 have L8 : Hid (Calls Try.prog 12 #[.pointer (some ⟨b, 0, none⟩)] w8 fun e w' => e = .returned (.int .i64 0) ∧ w' = w8.drew) := len_any b cu cn n [] [] true w8 hF8
                 clear hb hF8)
              | (go_at_call 12; (with_reducible refine L8.out.mono ?_); rintro e w9 ⟨rfl, hw9⟩; have HB9 : Hid (Below w.heap.size w w9) := by rw [hw9]; exact HB8.out.drew
                 clear hw9))
            go_ret
            exact ⟨rfl, HB9.out⟩
      · have d1 : decide (k < xs.length) = true := decide_eq_true q1
        have d2 : decide (k < us.length) = false := decide_eq_false q2
        obtain ⟨af, capf, hff, -⟩ := hO.own1.at.form
        obtain ⟨at', capt, htt, -⟩ := hO.own2.at.form
        subst hff htt
        have HL : Hid (U.length + N.length ≤ 1000) := by show _ ≤ _; have := hO.feed.lu; have := hO.feed.ln; have := HN.out; omega
        have C1 := Lib.hid (close_open b cu cn n U N wr hO.feed)
        obtain ⟨Q, hQe⟩ : ∃ Q, U ++ N = Q := ⟨_, rfl⟩
        have HQe := Lib.hid hQe
        have HQ : Hid (Q.length ≤ 1000) := by show _ ≤ _; rw [← hQe, List.length_append]; exact HL.out
        clear hk hall hO hQe
        go_wp2_with (first
          | (go_at_call 9; (with_reducible refine C1.out.mono ?_); rintro e w4 ⟨rfl, hf, hu⟩
             have HO4 := Lib.hid (HO.out.upd hf hu)
             have C2 : Hid (Calls Try.prog 10 #[.pointer (some ⟨b, 0, none⟩), .int .i64 1000] w4 fun e w' => ∃ v, e = .returned v ∧ RestAt w4 w' b cu cn n true v (U ++ N) [] []) := rest_any b cu cn n U N true 1000 (Nat.le_refl _) HL.out w4 hf
             clear hf hu C1)
          | (go_at_call 10; (with_reducible refine C2.out.mono ?_); rintro e w5 ⟨g, rfl, hr⟩
             have HR5 := Lib.hid hr
             have HO5 := Lib.hid (HO4.out.upd hr.feed (two3 hr.upd))
             clear hr C2)
          | (at_builtin; refine wpList_append_ints rfl (.tmp 122) (.tmp 123) rfl w1.heap.size w5 (.slice af U.length capf) (.slice at' N.length capt) rfl rfl U N HO5.out.own1 HO5.out.own2.at (Nat.le_trans HL.out (by decide)) HO5.out.sz ?_
             intro v' w6 hown hgrow hdis
             have HE : Hid (EndAt w w6 b cu cn n g v' Q) := by show EndAt _ _ _ _ _ _ _ _ _; rw [← HQe.out]; exact EndAt.of HO4.out HR5.out hown hgrow
             obtain ⟨ag, capg, rfl, hg⟩ := HE.out.got.form
             obtain ⟨ah, caph, rfl, hh⟩ := HE.out.want.form
             clear hown hgrow hdis hg hh HR5 HO5 HO4 HO))
        go_loopw [14] (fun i wr => ∃ k : Nat, k ≤ Q.length ∧ i = .int .i64 k ∧ EndAt w wr b cu cn n (.slice ag Q.length capg) (.slice ah Q.length caph) Q) (fun i _ => ((Q.length : Int) - intOf i).toNat)
        case atStart => exact ⟨0, Nat.zero_le _, rfl, HE.out⟩
        case round =>
          obtain ⟨k, hk, rfl, hE⟩ := hrel
          clear HE
          have HE := Lib.hid hE
          by_cases hlt : k < Q.length
          · obtain ⟨a', cap', heq, hcell⟩ := hE.got.form
            simp only [Value.slice.injEq] at heq
            obtain ⟨rfl, -, rfl⟩ := heq
            obtain ⟨a', cap', heq, hcell'⟩ := hE.want.form
            simp only [Value.slice.injEq] at heq
            obtain ⟨rfl, -, rfl⟩ := heq
            obtain ⟨bg, og, rfl, hg⟩ := hcell (by omega)
            obtain ⟨bh, oh, rfl, hh⟩ := hcell' (by omega)
            have cg := hg k hlt
            have ch := hh k hlt
            have d1 : decide (k < Q.length) = true := decide_eq_true hlt
            have k0 : (0 : Int) ≤ k := by omega
            have k1 : (k : Int) < Q.length := by omega
            have e9 : IntKind.i64.wrap ((k : Int) + 1) = ((k + 1 : Nat) : Int) := by have := HQ.out; rw [IntWalk.i64_in _ (by omega)]; omega
            have HK : Hid (k < Q.length) := hlt
            generalize Q[k] = x at *
            clear hg hh hcell hcell' hk hE hlt
            go_wp2_with fail
            go_region
            all_goals (
              go_wp2_with fail
              go_roundw
              (case rel => exact ⟨k + 1, HK.out, rfl, HE.out.drew⟩)
              (case measure => have := HK.out; simp [intOf]; omega))
          · obtain rfl : k = Q.length := by omega
            have d1 : decide (Q.length < Q.length) = false := by simp
            have P1 : Hid (Calls Try.prog 11 #[.pointer (some ⟨b, 0, none⟩)] wr fun e w' => e = .returned (.tuple #[.int .i64 0, .int .i64 7]) ∧ wr = w') := pop_e b cu cn n true wr hE.feed
            have A1 := Lib.hid (alive19_any wr)
            clear hk hlt hE
            go_wp2_with (first
              | (go_at_call 11; (with_reducible refine P1.out.mono ?_); rintro e w7 ⟨rfl, rfl⟩)
              | (go_at_call 7; (with_reducible refine A1.out.mono ?_); rintro e w8 ⟨rfl, hb⟩
                 have hF8 := HE.out.feed.upd (Upd.of_below (l := []) hb) (by simp) (by simp) (by simp)
                 have HB8 := Lib.hid (HE.out.below.trans (hb.mono HE.out.below.size))
                 have L8 : Hid (Calls Try.prog 12 #[.pointer (some ⟨b, 0, none⟩)] w8 fun e w' => e = .returned (.int .i64 0) ∧ w' = w8.drew) := len_any b cu cn n [] [] true w8 hF8
                 clear hb hF8)
              | (go_at_call 12; (with_reducible refine L8.out.mono ?_); rintro e w9 ⟨rfl, hw9⟩; have HB9 : Hid (Below w.heap.size w w9) := by rw [hw9]; exact HB8.out.drew
                 clear hw9))
            go_ret
            exact ⟨rfl, HB9.out⟩
      · have d1 : decide (k < xs.length) = true := decide_eq_true q1
        have d2 : decide (k < us.length) = true := decide_eq_true q2
        have d3 : decide ((k : Int) < 2000) = false := by simp; omega
        obtain ⟨af, capf, hff, -⟩ := hO.own1.at.form
        obtain ⟨at', capt, htt, -⟩ := hO.own2.at.form
        subst hff htt
        have HL : Hid (U.length + N.length ≤ 1000) := by show _ ≤ _; have := hO.feed.lu; have := hO.feed.ln; have := HN.out; omega
        have C1 := Lib.hid (close_open b cu cn n U N wr hO.feed)
        obtain ⟨Q, hQe⟩ : ∃ Q, U ++ N = Q := ⟨_, rfl⟩
        have HQe := Lib.hid hQe
        have HQ : Hid (Q.length ≤ 1000) := by show _ ≤ _; rw [← hQe, List.length_append]; exact HL.out
        clear hk hall hO hQe
        go_wp2_with (first
          | (go_at_call 9; (with_reducible refine C1.out.mono ?_); rintro e w4 ⟨rfl, hf, hu⟩
             have HO4 := Lib.hid (HO.out.upd hf hu)
             have C2 : Hid (Calls Try.prog 10 #[.pointer (some ⟨b, 0, none⟩), .int .i64 1000] w4 fun e w' => ∃ v, e = .returned v ∧ RestAt w4 w' b cu cn n true v (U ++ N) [] []) := rest_any b cu cn n U N true 1000 (Nat.le_refl _) HL.out w4 hf
             clear hf hu C1)
          | (go_at_call 10; (with_reducible refine C2.out.mono ?_); rintro e w5 ⟨g, rfl, hr⟩
             have HR5 := Lib.hid hr
             have HO5 := Lib.hid (HO4.out.upd hr.feed (two3 hr.upd))
             clear hr C2)
          | (at_builtin; refine wpList_append_ints rfl (.tmp 122) (.tmp 123) rfl w1.heap.size w5 (.slice af U.length capf) (.slice at' N.length capt) rfl rfl U N HO5.out.own1 HO5.out.own2.at (Nat.le_trans HL.out (by decide)) HO5.out.sz ?_
             intro v' w6 hown hgrow hdis
             have HE : Hid (EndAt w w6 b cu cn n g v' Q) := by show EndAt _ _ _ _ _ _ _ _ _; rw [← HQe.out]; exact EndAt.of HO4.out HR5.out hown hgrow
             obtain ⟨ag, capg, rfl, hg⟩ := HE.out.got.form
             obtain ⟨ah, caph, rfl, hh⟩ := HE.out.want.form
             clear hown hgrow hdis hg hh HR5 HO5 HO4 HO))
        go_loopw [14] (fun i wr => ∃ k : Nat, k ≤ Q.length ∧ i = .int .i64 k ∧ EndAt w wr b cu cn n (.slice ag Q.length capg) (.slice ah Q.length caph) Q) (fun i _ => ((Q.length : Int) - intOf i).toNat)
        case atStart => exact ⟨0, Nat.zero_le _, rfl, HE.out⟩
        case round =>
          obtain ⟨k, hk, rfl, hE⟩ := hrel
          clear HE
          have HE := Lib.hid hE
          by_cases hlt : k < Q.length
          · obtain ⟨a', cap', heq, hcell⟩ := hE.got.form
            simp only [Value.slice.injEq] at heq
            obtain ⟨rfl, -, rfl⟩ := heq
            obtain ⟨a', cap', heq, hcell'⟩ := hE.want.form
            simp only [Value.slice.injEq] at heq
            obtain ⟨rfl, -, rfl⟩ := heq
            obtain ⟨bg, og, rfl, hg⟩ := hcell (by omega)
            obtain ⟨bh, oh, rfl, hh⟩ := hcell' (by omega)
            have cg := hg k hlt
            have ch := hh k hlt
            have d1 : decide (k < Q.length) = true := decide_eq_true hlt
            have k0 : (0 : Int) ≤ k := by omega
            have k1 : (k : Int) < Q.length := by omega
            have e9 : IntKind.i64.wrap ((k : Int) + 1) = ((k + 1 : Nat) : Int) := by have := HQ.out; rw [IntWalk.i64_in _ (by omega)]; omega
            have HK : Hid (k < Q.length) := hlt
            generalize Q[k] = x at *
            clear hg hh hcell hcell' hk hE hlt
            go_wp2_with fail
            go_region
            all_goals (
              go_wp2_with fail
              go_roundw
              (case rel => exact ⟨k + 1, HK.out, rfl, HE.out.drew⟩)
              (case measure => have := HK.out; simp [intOf]; omega))
          · obtain rfl : k = Q.length := by omega
            have d1 : decide (Q.length < Q.length) = false := by simp
            have P1 : Hid (Calls Try.prog 11 #[.pointer (some ⟨b, 0, none⟩)] wr fun e w' => e = .returned (.tuple #[.int .i64 0, .int .i64 7]) ∧ wr = w') := pop_e b cu cn n true wr hE.feed
            have A1 := Lib.hid (alive19_any wr)
            clear hk hlt hE
            go_wp2_with (first
              | (go_at_call 11; (with_reducible refine P1.out.mono ?_); rintro e w7 ⟨rfl, rfl⟩)
              | (go_at_call 7; (with_reducible refine A1.out.mono ?_); rintro e w8 ⟨rfl, hb⟩
                 have hF8 := HE.out.feed.upd (Upd.of_below (l := []) hb) (by simp) (by simp) (by simp)
                 have HB8 := Lib.hid (HE.out.below.trans (hb.mono HE.out.below.size))
                 have L8 : Hid (Calls Try.prog 12 #[.pointer (some ⟨b, 0, none⟩)] w8 fun e w' => e = .returned (.int .i64 0) ∧ w' = w8.drew) := len_any b cu cn n [] [] true w8 hF8
                 clear hb hF8)
              | (go_at_call 12; (with_reducible refine L8.out.mono ?_); rintro e w9 ⟨rfl, hw9⟩; have HB9 : Hid (Below w.heap.size w w9) := by rw [hw9]; exact HB8.out.drew
                 clear hw9))
            go_ret
            exact ⟨rfl, HB9.out⟩

end Go.Proofs.Ytlomjckmclefeaa

