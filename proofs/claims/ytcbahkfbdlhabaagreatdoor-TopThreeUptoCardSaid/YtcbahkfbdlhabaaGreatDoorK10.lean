/- A part of the proof that the law TopThree returns true for all arguments of bulk at most 1048576 (no other condition). Here: The document's keys: Of, Right, Cut. -/
import Derived.Test.YtcbahkfbdlhabaaGreatDoorK09
namespace Go.Proofs.YtcbahkfbdlhabaaGreatDoor
set_option linter.unusedVariables false
set_option linter.unusedSimpArgs false
open Go.RowKit
attribute [local go_sem] index24_0 index24_1 field34_0 field34_1
attribute [local irreducible] wpList Code.wp wpB

set_option maxRecDepth 100000 in
set_option maxHeartbeats 4000000 in
theorem refOf3_nil (a : Option Addr) (c : Nat) (w : World) : Calls Tryz.prog 55 #[.int .i64 3, .slice a 0 c] w fun e w' => e = .returned (.agg #[.int .i64 3, .int .i64 0, .int .u64 0, .int .u64 0, .string ⟨#[]⟩]) ∧ Below w.heap.size w w' := by
  have HH := Hp.nil w
  go_enter Tryz.func55, Tryz.ntmps55
  go_wp2_with (first | (go_at_call 64; (with_reducible refine ((refJoin_nil _ _) _).mono ?_); rintro e V ⟨rfl, hb⟩; replace HH := HH.next hb; clear hb) | ((with_reducible show zX (Op.load _ _)); (refine wpl_load HH 0 rfl rfl rfl rfl rfl ?_; (try simp only [Act.put, zz]))) | ((with_reducible show zX (Op.binOp _ _ _ _ _)); (refine wpl_cmp (p := ?_) rfl rfl rfl ?_ ?_ ?_; rotate_left; (focus (go_simp; with_reducible rfl)); all_goals (intro hq; (try (contradiction)); (try simp only [zw] at hq); (try simp only [Act.put, zz])))) | ((with_reducible show zW (Op.store _ _ _)); (first | (refine wpl_store HH 0 rfl rfl rfl rfl rfl rfl rfl rfl ?_; clear HH; intro V HH; simp only [Act.eval, zx, Value.cells, putl, zC, zB] at HH; (try simp only [Act.put, zz])) | (refine wpl_store HH 1 rfl rfl rfl rfl rfl rfl rfl rfl ?_; clear HH; intro V HH; simp only [Act.eval, zx, Value.cells, putl, zC, zB] at HH; (try simp only [Act.put, zz])))) | ((with_reducible show zW (Op.alloc _)); refine wpl_alloc HH rfl rfl ?_; clear HH; intro b V HH; simp only [Act.eval, zx, Value.cells, putl, zC, zB] at HH; (try simp only [Act.put, zz])))
  all_goals (((refine bodyPost_ret (results_c rfl HH 1 rfl rfl rfl) rfl ⟨?_, HH.below rfl⟩); (rfl)))

set_option maxRecDepth 100000 in
set_option maxHeartbeats 4000000 in
theorem refOf3_row (ls : List ByteArray) (row : List Value) (g cap : Nat) (hj : ∀ w, Hp w w [⟨g, .cells row.toArray 9 (0, 0), false⟩] → Calls Tryz.prog 64 #[.slice (some ⟨g, 0, none⟩) ls.length cap] w fun e w' => e = .returned (.string (joinB ls)) ∧ Below w.heap.size w w') (w : World) (HH0 : Hp w w [⟨g, .cells row.toArray 9 (0, 0), false⟩]) : Calls Tryz.prog 55 #[.int .i64 3, .slice (some ⟨g, 0, none⟩) ls.length cap] w fun e w' => e = .returned (.agg #[.int .i64 3, .int .i64 ls.length, .int .u64 0, .int .u64 0, .string (joinB ls)]) ∧ Below w.heap.size w w' := by
  have HJ := hj
  clear hj
  have HH := HH0
  go_enter Tryz.func55, Tryz.ntmps55
  go_wp2_with (first | (go_at_call 64; (have HL := HH.lend 2 rfl); (with_reducible refine (HJ _ HL).mono ?_); clear HL; rintro e V ⟨rfl, hb⟩; replace HH := HH.next hb; clear hb; (try simp only [Act.put, zz])) | ((with_reducible show zX (Op.load _ _)); (refine wpl_load HH 0 rfl rfl rfl rfl rfl ?_; (try simp only [Act.put, zz]))) | ((with_reducible show zX (Op.binOp _ _ _ _ _)); (refine wpl_cmp (p := ?_) rfl rfl rfl ?_ ?_ ?_; rotate_left; (focus (go_simp; with_reducible rfl)); all_goals (intro hq; (try (contradiction)); (try simp only [zw] at hq); (try simp only [Act.put, zz])))) | ((with_reducible show zW (Op.store _ _ _)); (first | (refine wpl_store HH 0 rfl rfl rfl rfl rfl rfl rfl rfl ?_; clear HH; intro V HH; simp only [Act.eval, zx, Value.cells, putl, zC, zB] at HH; (try simp only [Act.put, zz])) | (refine wpl_store HH 1 rfl rfl rfl rfl rfl rfl rfl rfl ?_; clear HH; intro V HH; simp only [Act.eval, zx, Value.cells, putl, zC, zB] at HH; (try simp only [Act.put, zz])))) | ((with_reducible show zW (Op.alloc _)); refine wpl_alloc HH rfl rfl ?_; clear HH; intro b V HH; simp only [Act.eval, zx, Value.cells, putl, zC, zB] at HH; (try simp only [Act.put, zz])))
  all_goals (refine bodyPost_ret (results_c rfl HH 1 rfl rfl rfl) rfl ⟨rfl, HH.below_at (fun e he => by simp only [List.mem_cons, List.not_mem_nil, or_false] at he; rcases he with rfl | rfl | rfl <;> first | exact .inl rfl | exact .inr HH0.lies.1)⟩)

theorem topN_mul (n : Nat) (i : Nat) (hn : n < MM) (hi : i ≤ 128) : 2 ^ (128 - i) ∣ topN n (i : Int) := by
  have h : topN n i % 2 ^ (128 - i) = 0 := by
    apply Nat.eq_of_testBit_eq
    intro j
    rw [Nat.testBit_mod_two_pow, topN_bit _ _ _ hn, Nat.zero_testBit]
    by_cases hj : j < 128 - i
    · rw [decide_eq_false (p := 128 - min (i : Int).toNat 128 ≤ j) (by omega)]
      simp
    · simp [hj]
  exact Nat.dvd_of_mod_eq_zero h
theorem topN_step (n i : Nat) (hn : n < MM) (hi : i < 128) : topN n ((i + 1 : Nat) : Int) = topN n (i : Int) + if n.testBit (127 - i) then 2 ^ (127 - i) else 0 := by
  obtain ⟨q, hq⟩ := topN_mul n i hn (by omega)
  have hlt : (if n.testBit (127 - i) then 2 ^ (127 - i) else 0) < 2 ^ (128 - i) := by
    have := Nat.pow_lt_pow_right (a := 2) (by omega) (show 127 - i < 128 - i by omega)
    have hpos := Nat.two_pow_pos (128 - i)
    split <;> omega
  rw [hq, Nat.two_pow_add_eq_or_of_lt hlt, ← hq]
  apply Nat.eq_of_testBit_eq
  intro j
  rw [Nat.testBit_or, topN_bit _ _ _ hn, topN_bit _ _ _ hn]
  by_cases hb : n.testBit (127 - i) = true
  · rw [if_pos hb, Nat.testBit_two_pow]
    by_cases hj : 127 - i = j
    · subst hj
      simp [hb]
      omega
    · simp only [hj, decide_false, Bool.or_false]
      congr 1
      rw [Bool.eq_iff_iff]
      simp
      omega
  · rw [if_neg hb, Nat.zero_testBit, Bool.or_false]
    by_cases hj : 127 - i = j
    · subst hj
      simp [hb]
    · congr 1
      rw [Bool.eq_iff_iff]
      simp
      omega
theorem topHL_lo (hi lo i : Nat) (h1 : hi < M) (h2 : lo < M) (h : i < 64) : topH hi lo ((i + 1 : Nat) : Int) = topH hi lo (i : Int) + (if bitV hi lo i then 2 ^ (63 - i) else 0) ∧ topL hi lo ((i + 1 : Nat) : Int) = topL hi lo (i : Int) := by
  unfold topH topL bitV
  have hs := topN_step (hi * M + lo) i (join_lt h1 h2) (by omega)
  have e : 2 ^ (127 - i) = 2 ^ (63 - i) * M := by
    have hM : M = 2 ^ 64 := by decide
    rw [show 127 - i = 63 - i + 64 by omega, Nat.pow_add, hM]
  rw [hs]
  have hM : 0 < M := by rw [M_eq]; omega
  generalize topN (hi * M + lo) (i : Int) = A
  by_cases hb : (hi * M + lo).testBit (127 - i) = true
  · rw [if_pos hb, if_pos hb, e, Nat.add_mul_div_right _ _ hM, Nat.add_mul_mod_self_right]
    exact ⟨rfl, rfl⟩
  · rw [if_neg hb, if_neg hb]
    exact ⟨by rw [Nat.add_zero, Nat.add_zero], by rw [Nat.add_zero]⟩
theorem topHL_hi (hi lo i : Nat) (h1 : hi < M) (h2 : lo < M) (h : 64 ≤ i) (h3 : i < 128) : topH hi lo ((i + 1 : Nat) : Int) = topH hi lo (i : Int) ∧ topL hi lo ((i + 1 : Nat) : Int) = topL hi lo (i : Int) + (if bitV hi lo i then 2 ^ (127 - i) else 0) := by
  unfold topH topL bitV
  have hs := topN_step (hi * M + lo) i (join_lt h1 h2) h3
  rw [hs]
  obtain ⟨q, hq⟩ := topN_mul (hi * M + lo) i (join_lt h1 h2) (by omega)
  clear hs
  generalize topN (hi * M + lo) (i : Int) = A at hq ⊢
  by_cases hb : (hi * M + lo).testBit (127 - i) = true
  · rw [if_pos hb]
    clear hb
    have hMd : M = 2 ^ (128 - i) * 2 ^ (i - 64) := by
      rw [← Nat.pow_add, show 128 - i + (i - 64) = 64 by omega]
      decide
    have hdvd : 2 ^ (128 - i) ∣ A % M := by
      rw [hq, hMd, Nat.mul_mod_mul_left]
      exact Nat.dvd_mul_right _ _
    obtain ⟨c, hc⟩ := hdvd
    have hM : 0 < M := by rw [M_eq]; omega
    have hlt : A % M < M := Nat.mod_lt _ hM
    have hcd : c < 2 ^ (i - 64) := by
      rw [hc, hMd] at hlt
      exact Nat.lt_of_mul_lt_mul_left hlt
    have hle : A % M + 2 ^ (128 - i) ≤ M := by
      rw [hc, hMd]
      calc 2 ^ (128 - i) * c + 2 ^ (128 - i) = 2 ^ (128 - i) * (c + 1) := by rw [Nat.mul_add, Nat.mul_one]
        _ ≤ 2 ^ (128 - i) * 2 ^ (i - 64) := Nat.mul_le_mul_left _ hcd
    have hp := Nat.pow_lt_pow_right (a := 2) (by omega) (show 127 - i < 128 - i by omega)
    have hAe : A = M * (A / M) + A % M := (Nat.div_add_mod A M).symm
    have hsum : A % M + 2 ^ (127 - i) < M := by omega
    have e1 : A + 2 ^ (127 - i) = M * (A / M) + (A % M + 2 ^ (127 - i)) := by omega
    refine ⟨?_, ?_⟩
    · rw [e1, Nat.mul_add_div hM, Nat.div_eq_of_lt hsum, Nat.add_zero]
    · rw [e1, Nat.mul_add_mod, Nat.mod_eq_of_lt hsum]
  · rw [if_neg hb]
    exact ⟨by rw [Nat.add_zero], by rw [Nat.add_zero, Nat.add_zero]⟩

theorem wrap_pow {a n : Nat} (h : a + 2 ^ n < M) : IntKind.u64.wrap ((a : Int) + IntKind.u64.wrap ((2 : Int) ^ n)) = ((a + 2 ^ n : Nat) : Int) := by
  have e : (2 : Int) ^ n = ((2 ^ n : Nat) : Int) := by simp
  rw [M_eq] at h
  rw [e]
  generalize 2 ^ n = x at h ⊢
  have e1 : IntKind.u64.wrap (x : Int) = x := IntWalk.u64_in _ (by omega)
  rw [e1, IntWalk.u64_in _ (by omega)]
  simp
theorem topN_zero (n : Nat) : topN n ((0 : Nat) : Int) = 0 := by
  unfold topN
  have e : maskN (min ((0 : Nat) : Int).toNat 128) = 0 := by decide
  rw [e, Nat.and_zero]
theorem topH_zero (hi lo : Nat) : topH hi lo ((0 : Nat) : Int) = 0 := by
  unfold topH
  rw [topN_zero, Nat.zero_div]
theorem topL_zero (hi lo : Nat) : topL hi lo ((0 : Nat) : Int) = 0 := by
  unfold topL
  rw [topN_zero, Nat.zero_mod]

set_option maxRecDepth 100000 in
set_option maxHeartbeats 4000000 in
theorem refOf_bits (k : Int) (m : Nat) (row : List Value) (g cap : Nat) (hk : k ≠ 3) (hm : m ≤ 128) (A B : Nat → Nat) (f : Nat → Bool) (hA : A 0 = 0) (hB : B 0 = 0) (hlo : ∀ i, i < 64 → A (i + 1) = A i + (if f i then 2 ^ (63 - i) else 0) ∧ B (i + 1) = B i) (hhi : ∀ i, 64 ≤ i → i < 128 → A (i + 1) = A i ∧ B (i + 1) = B i + (if f i then 2 ^ (127 - i) else 0)) (hM : ∀ i, A i < M ∧ B i < M) (hv : ∀ j, j < m → rdv false 1 row j = some (.string (if f j then ⟨#[49]⟩ else ⟨#[48]⟩))) (w : World) (HH0 : Hp w w [⟨g, .cells row.toArray 9 (0, 0), false⟩]) : Calls Tryz.prog 55 #[.int .i64 k, .slice (some ⟨g, 0, none⟩) m cap] w fun e w' => e = .returned (.agg #[.int .i64 k, .int .i64 m, .int .u64 (A m : Int), .int .u64 (B m : Int), .string ⟨#[]⟩]) ∧ Below w.heap.size w w' := by
  have HV := hv
  clear hv
  have HH := HH0
  have HLO := Lib.hid hlo
  have HHI := Lib.hid hhi
  have HMM := Lib.hid hM
  clear hlo hhi hM
  go_enter Tryz.func55, Tryz.ntmps55
  go_wp2_with (first | ((with_reducible show zX (Op.binOp _ _ _ _ _)); (refine wpl_cmp (p := ?_) rfl rfl rfl ?_ ?_ ?_; rotate_left; (focus (go_simp; with_reducible rfl)); all_goals (intro hq; (try (fail)); (try simp only [zw] at hq); (try simp only [Act.put, zz])))) | ((with_reducible show zW (Op.store _ _ _)); (refine wpl_store HH 0 rfl rfl rfl rfl rfl rfl rfl rfl ?_; clear HH; intro V HH; simp only [Act.eval, zx, Value.cells, putl, zC, zB] at HH; (try simp only [Act.put, zz]))) | ((with_reducible show zW (Op.alloc _)); refine wpl_alloc HH rfl rfl ?_; clear HH; intro b V HH; simp only [Act.eval, zx, Value.cells, putl, zC, zB] at HH; (try simp only [Act.put, zz])))
  all_goals (try (exfalso; simp_all; done))
  go_loopw [6] (fun i wr => ∃ i' : Nat, i' ≤ m ∧ i = .int .i64 i' ∧ Hp w wr (⟨b, .cells #[.int .i64 k, .int .i64 m, .int .u64 (A i' : Int), .int .u64 (B i' : Int), .string ⟨#[]⟩] 31 (0, 0), true⟩ :: (Hp.lst HH).tail)) (fun i _ => (m - (intOf i).toNat))
  case atStart =>
    refine ⟨0, by omega, rfl, ?_⟩
    rw [hA, hB]
    exact HH
  case round =>
    obtain ⟨i, him, rfl, HR⟩ := hrel
    dsimp only [Hp.lst, List.tail] at HR
    have HH := HR
    clear HR
    cases hb : f i
    · have HV2 : i < m → rdv false 1 row i = some (.string ⟨#[48]⟩) := fun h => by
        have := HV i h
        rw [hb] at this
        exact this
      have HB := Lib.hid hb
      clear hb
      go_wp2_with (first | ((with_reducible show zW (Op.load 9 _)); refine wpl_load HH 2 rfl rfl rfl rfl (HV2 (by omega)) ?_; (try simp only [Act.put, zz])) | ((with_reducible show zX (Op.load _ _)); (refine wpl_load HH 0 rfl rfl rfl rfl rfl ?_; (try simp only [Act.put, zz]))) | ((with_reducible show zX (Op.binOp _ _ _ _ _)); (refine wpl_cmp (p := ?_) rfl rfl rfl ?_ ?_ ?_; rotate_left; (focus (go_simp; with_reducible rfl)); all_goals (intro hq; (try (contradiction)); (try simp only [zw] at hq); (try simp only [Act.put, zz])))) | ((with_reducible show zW (Op.store _ _ _)); (refine wpl_store HH 1 rfl rfl rfl rfl rfl rfl rfl rfl ?_; clear HH; intro V HH; simp only [Act.eval, zx, Value.cells, putl, zC, zB] at HH; (try simp only [Act.put, zz]))))
      all_goals (try (exfalso; omega))
      · have h9 := HB.out
        refine ⟨⟨i + 1, by omega, nat_succ i, ?_⟩, by simp [intOf]; omega⟩
        rcases Nat.lt_or_ge i 64 with h64 | h64
        · have e := HLO.out i h64
          rw [h9] at e
          simp only [Bool.false_eq_true, if_false, Nat.add_zero] at e
          rw [e.1, e.2]
          exact HH
        · have e := HHI.out i h64 (by omega)
          rw [h9] at e
          simp only [Bool.false_eq_true, if_false, Nat.add_zero] at e
          rw [e.1, e.2]
          exact HH
      · have hm' : i = m := by omega
        subst hm'
        (refine bodyPost_ret (results_c rfl HH 1 rfl rfl rfl) rfl ⟨rfl, HH.below_at (fun e he => by simp only [List.mem_cons, List.not_mem_nil, or_false] at he; rcases he with rfl | rfl | rfl <;> first | exact .inl rfl | exact .inr HH0.lies.1)⟩)
    · have HV2 : i < m → rdv false 1 row i = some (.string ⟨#[49]⟩) := fun h => by
        have := HV i h
        rw [hb] at this
        exact this
      have HB := Lib.hid hb
      clear hb
      go_wp2_with (first | ((with_reducible show zW (Op.load 9 _)); refine wpl_load HH 2 rfl rfl rfl rfl (HV2 (by omega)) ?_; (try simp only [Act.put, zz])) | ((with_reducible show zX (Op.load _ _)); (refine wpl_load HH 0 rfl rfl rfl rfl rfl ?_; (try simp only [Act.put, zz]))) | ((with_reducible show zX (Op.binOp _ _ _ _ _)); (refine wpl_cmp (p := ?_) rfl rfl rfl ?_ ?_ ?_; rotate_left; (focus (go_simp; with_reducible rfl)); all_goals (intro hq; (try (contradiction)); (try simp only [zw] at hq); (try simp only [Act.put, zz])))) | ((with_reducible show zY (Op.binOp _ _ _ _ _)); (refine wpl_cmp (p := ?_) rfl rfl (by simp only [Region.wanted, yielded, zy, Option.bind_some]; decide) ?_ ?_ ?_; rotate_left; (focus (go_simp; with_reducible rfl)); all_goals (intro hq; (try (contradiction)); (try simp only [zw] at hq); (try simp only [Act.put, zz])))) | ((with_reducible show zW (Op.store _ _ _)); (first | (refine wpl_store HH 0 rfl rfl rfl rfl rfl rfl rfl rfl ?_; clear HH; intro V HH; simp only [Act.eval, zx, Value.cells, putl, zC, zB] at HH; (try simp only [Act.put, zz])) | (refine wpl_store HH 1 rfl rfl rfl rfl rfl rfl rfl rfl ?_; clear HH; intro V HH; simp only [Act.eval, zx, Value.cells, putl, zC, zB] at HH; (try simp only [Act.put, zz])))))
      all_goals (try (exfalso; omega))
      · have h9 := HB.out
        refine ⟨⟨i + 1, by omega, nat_succ i, ?_⟩, by simp [intOf]; omega⟩
        have e := HLO.out i (by omega)
        rw [h9] at e
        simp only [if_true] at e
        have hl := (HMM.out (i + 1)).1
        rw [e.1] at hl
        rw [wrap_pow hl] at HH
        rw [e.1, e.2]
        exact HH
      · have h9 := HB.out
        refine ⟨⟨i + 1, by omega, nat_succ i, ?_⟩, by simp [intOf]; omega⟩
        have e := HHI.out i (by omega) (by omega)
        rw [h9] at e
        simp only [if_true] at e
        have hl := (HMM.out (i + 1)).2
        rw [e.2] at hl
        rw [wrap_pow hl] at HH
        rw [e.1, e.2]
        exact HH
      · have hm' : i = m := by omega
        subst hm'
        (refine bodyPost_ret (results_c rfl HH 1 rfl rfl rfl) rfl ⟨rfl, HH.below_at (fun e he => by simp only [List.mem_cons, List.not_mem_nil, or_false] at he; rcases he with rfl | rfl | rfl <;> first | exact .inl rfl | exact .inr HH0.lies.1)⟩)

set_option maxRecDepth 100000 in
set_option maxHeartbeats 4000000 in
theorem refRight_no (k l : Int) (hi lo : Nat) (p : ByteArray) (hs : Gives 54 #[.agg #[.int .i64 k, .int .i64 l, .int .u64 (hi : Int), .int .u64 (lo : Int), .string p]] (.tuple #[.slice none 0 0, .bool false])) (w : World) : Calls Tryz.prog 40 #[.agg #[.int .i64 k, .int .i64 l, .int .u64 (hi : Int), .int .u64 (lo : Int), .string p]] w fun e w' => e = .returned (.bool false) ∧ Below w.heap.size w w' := by
  have HS := hs
  clear hs
  have HH := Hp.nil w
  go_enter Tryz.func40, Tryz.ntmps40
  go_wp2_with (first | (go_at_call 54; (with_reducible refine ((HS) _).mono ?_); rintro e V ⟨rfl, hb⟩; replace HH := HH.next hb; clear hb) | ((with_reducible show zX (Op.load _ _)); (refine wpl_load HH 0 rfl rfl rfl rfl rfl ?_; (try simp only [Act.put, zz]))) | ((with_reducible show zW (Op.box _ _)); refine wpl_box HH rfl rfl rfl ?_; clear HH; intro b V HH; simp only [Act.eval, zx, Value.cells, putl, zC, zB] at HH; (try simp only [Act.put, zz])))
  all_goals (go_ret; refine ⟨?_, HH.below rfl⟩; (rfl))

set_option maxRecDepth 100000 in
set_option maxHeartbeats 4000000 in
theorem refRight_yes (k l : Int) (hi lo : Nat) (p : ByteArray) (n : Nat) (ls : List ByteArray) (hs : (∀ w, Calls Tryz.prog 54 #[.agg #[.int .i64 k, .int .i64 l, .int .u64 (hi : Int), .int .u64 (lo : Int), .string p]] w fun e w' => ∃ v r, e = .returned (.tuple #[v, .bool true]) ∧ SlR 9 1 true v n (srow ls) r ∧ Hp w w' r)) (w : World) : Calls Tryz.prog 40 #[.agg #[.int .i64 k, .int .i64 l, .int .u64 (hi : Int), .int .u64 (lo : Int), .string p]] w fun e w' => e = .returned (.bool true) ∧ Below w.heap.size w w' := by
  have HS := hs
  clear hs
  have HH := Hp.nil w
  go_enter Tryz.func40, Tryz.ntmps40
  go_wp2_with (first | (go_at_call 54; (with_reducible refine (HS _).mono ?_); rintro e V ⟨v, r, rfl, HSl, hh⟩; replace HH := (HH.join hh HSl.own).comm; clear hh; (try simp only [List.cons_append, List.nil_append] at HH); (obtain ⟨a, c, rfl⟩ := HSl.form); (try simp only [Act.put, zz])) | ((with_reducible show zX (Op.load _ _)); (refine wpl_load HH 0 rfl rfl rfl rfl rfl ?_; (try simp only [Act.put, zz]))) | ((with_reducible show zW (Op.box _ _)); refine wpl_box HH rfl rfl rfl ?_; clear HH; intro b V HH; simp only [Act.eval, zx, Value.cells, putl, zC, zB] at HH; (try simp only [Act.put, zz])))
  all_goals (go_ret; refine ⟨?_, HH.below (by rw [List.all_cons]; exact List.all_eq_true.2 HSl.own)⟩; (rfl))

set_option maxRecDepth 100000 in
set_option maxHeartbeats 4000000 in
theorem refCut_no (k l : Int) (hi lo : Nat) (p : ByteArray) (nn : Int) (hs : Gives 54 #[.agg #[.int .i64 k, .int .i64 l, .int .u64 (hi : Int), .int .u64 (lo : Int), .string p]] (.tuple #[.slice none 0 0, .bool false])) (w : World) : Calls Tryz.prog 41 #[.agg #[.int .i64 k, .int .i64 l, .int .u64 (hi : Int), .int .u64 (lo : Int), .string p], .int .i64 nn] w fun e w' => e = .returned (.agg #[.int .i64 0, .int .i64 0, .int .u64 0, .int .u64 0, .string ⟨#[]⟩]) ∧ Below w.heap.size w w' := by
  have HS := hs
  clear hs
  have HH := Hp.nil w
  go_enter Tryz.func41, Tryz.ntmps41
  go_wp2_with (first | (go_at_call 54; (with_reducible refine ((HS) _).mono ?_); rintro e V ⟨rfl, hb⟩; replace HH := HH.next hb; clear hb) | ((with_reducible show zX (Op.load _ _)); (refine wpl_load HH 1 rfl rfl rfl rfl rfl ?_; (try simp only [Act.put, zz]))) | ((with_reducible show zW (Op.store _ _ _)); (refine wpl_store HH 0 rfl rfl rfl rfl rfl rfl rfl rfl ?_; clear HH; intro V HH; simp only [Act.eval, zx, Value.cells, putl, zC, zB] at HH; (try simp only [Act.put, zz]))) | ((with_reducible show zW (Op.box _ _)); refine wpl_box HH rfl rfl rfl ?_; clear HH; intro b V HH; simp only [Act.eval, zx, Value.cells, putl, zC, zB] at HH; (try simp only [Act.put, zz])) | ((with_reducible show zW (Op.alloc _)); refine wpl_alloc HH rfl rfl ?_; clear HH; intro b V HH; simp only [Act.eval, zx, Value.cells, putl, zC, zB] at HH; (try simp only [Act.put, zz])))
  all_goals (((refine bodyPost_ret (results_c rfl HH 0 rfl rfl rfl) rfl ⟨?_, HH.below rfl⟩); (rfl)))

/-- What Of gives for the first m of some letters. -/
structure OfC (k : Int) (ls : List ByteArray) (m : Nat) (res : Value) : Prop where
  nil : m = 0 → ∀ (a : Option Addr) (c : Nat), Gives 55 #[.int .i64 k, .slice a 0 c] res
  row : ∀ (g cap : Nat) (row : List Value) (w : World), (∀ j, j < m → rdv false 1 row j = some (.string (gs ls j))) → Hp w w [⟨g, .cells row.toArray 9 (0, 0), false⟩] → Calls Tryz.prog 55 #[.int .i64 k, .slice (some ⟨g, 0, none⟩) m cap] w fun e w' => e = .returned res ∧ Below w.heap.size w w'
theorem SlR.read {E : Nat} {own : Bool} {ps : List ByteArray} {js : List Value} (j : Nat) (hj : j < ps.length) : rdv false 1 (srow ps ++ js) j = some (.string (gs ps j)) := by
  show (srow ps ++ js)[j]? = _
  rw [List.getElem?_append_left (by simpa [srow] using hj)]
  exact srow_get ps j hj

set_option maxRecDepth 100000 in
set_option maxHeartbeats 4000000 in
theorem refCut_neg (k l : Int) (hi lo : Nat) (p : ByteArray) (nn : Int) (n : Nat) (ls : List ByteArray) (hs : (∀ w, Calls Tryz.prog 54 #[.agg #[.int .i64 k, .int .i64 l, .int .u64 (hi : Int), .int .u64 (lo : Int), .string p]] w fun e w' => ∃ v r, e = .returned (.tuple #[v, .bool true]) ∧ SlR 9 1 true v n (srow ls) r ∧ Hp w w' r)) (ck cl : Int) (ci co : Nat) (cp : ByteArray) (hn : nn < 0) (ho : OfC k ls 0 (.agg #[.int .i64 ck, .int .i64 cl, .int .u64 (ci : Int), .int .u64 (co : Int), .string cp])) (w : World) : Calls Tryz.prog 41 #[.agg #[.int .i64 k, .int .i64 l, .int .u64 (hi : Int), .int .u64 (lo : Int), .string p], .int .i64 nn] w fun e w' => e = .returned (.agg #[.int .i64 ck, .int .i64 cl, .int .u64 (ci : Int), .int .u64 (co : Int), .string cp]) ∧ Below w.heap.size w w' := by
  have HS := hs
  have HO := ho
  clear hs ho
  have HH := Hp.nil w
  go_enter Tryz.func41, Tryz.ntmps41
  go_wp2_with (first | (go_at_call 54; (with_reducible refine (HS _).mono ?_); rintro e V ⟨v, r, rfl, HSl, hh⟩; replace HH := (HH.join hh HSl.own).comm; clear hh; (have hln := HSl.1); (rcases HSl.2 with ⟨rfl, rfl, rfl⟩ | ⟨g, cap, js, rfl, rfl, g1, g2, g3⟩); all_goals ((try simp only [List.cons_append, List.nil_append, List.append_nil] at HH); (try simp only [Act.put, zz]))) | (first | (go_at_call 55; (have HL := HH.lend 2 rfl); (with_reducible refine (HO.row _ _ _ _ (fun j hj => SlR.read (E := 9) (own := true) j (by have := hln; simp [srow] at this; omega)) HL).mono ?_); clear HL; rintro e V ⟨rfl, hb⟩; replace HH := HH.next hb; clear hb; (try simp only [Act.put, zz])) | (go_at_call 55; (with_reducible refine (HO.nil (by omega) _ _ _).mono ?_); rintro e V ⟨rfl, hb⟩; replace HH := HH.next hb; clear hb; (try simp only [Act.put, zz]))) | ((with_reducible show zX (Op.load _ _)); (refine wpl_load HH 1 rfl rfl rfl rfl rfl ?_; (try simp only [Act.put, zz]))) | ((with_reducible show zX (Op.binOp _ _ _ _ _)); (refine wpl_cmp (p := ?_) rfl rfl rfl ?_ ?_ ?_; rotate_left; (focus (go_simp; with_reducible rfl)); all_goals (intro hq; (try (contradiction)); (try simp only [zw] at hq); (try simp only [Act.put, zz])))) | ((with_reducible show zW (Op.store _ _ _)); (refine wpl_store HH 0 rfl rfl rfl rfl rfl rfl rfl rfl ?_; clear HH; intro V HH; simp only [Act.eval, zx, Value.cells, putl, zC, zB] at HH; (try simp only [Act.put, zz]))) | ((with_reducible show zW (Op.box _ _)); refine wpl_box HH rfl rfl rfl ?_; clear HH; intro b V HH; simp only [Act.eval, zx, Value.cells, putl, zC, zB] at HH; (try simp only [Act.put, zz])) | ((with_reducible show zW (Op.alloc _)); refine wpl_alloc HH rfl rfl ?_; clear HH; intro b V HH; simp only [Act.eval, zx, Value.cells, putl, zC, zB] at HH; (try simp only [Act.put, zz])) | ((with_reducible show Code.wp _ (Code.region _ _ true) _ _ _); (refine wp_tail_Hp (id := 8) [0, 1, 2, 3, 4] [5, 6] (by kernel_rfl) HH ?_; clear HH; (try dsimp only); (try simp only [pick, zy]); repeat' (first | ((with_reducible show wpB _ _ _ _ [] _); refine wpB_nil ?_; intro V HH; (try simp only [pick, zy]); (try simp only [Act.put, zz]); (try simp only [Value.cells] at HH)) | (((with_reducible show zU _); (first | ((with_reducible show zT (Op.move _)); refine wpB_move rfl rfl rfl ?_) | ((with_reducible show zT (Op.load _ _)); (refine wpB_load 1 rfl rfl rfl rfl rfl ?_)) | (refine wpB_val (v := ?_) rfl ?_ ?_; rotate_left; (focus (intro w9 hS9; go_simp; all_goals (with_reducible rfl)))))); all_goals (try simp only [Act.put, zz, Act.eval, zx]))))))
  all_goals (try (exfalso; omega))
  all_goals (refine bodyPost_ret (results_c rfl HH 0 rfl rfl rfl) rfl ⟨rfl, HH.below rfl⟩)

set_option maxRecDepth 100000 in
set_option maxHeartbeats 4000000 in
theorem refCut_big (k l : Int) (hi lo : Nat) (p : ByteArray) (nn : Int) (n : Nat) (ls : List ByteArray) (hs : (∀ w, Calls Tryz.prog 54 #[.agg #[.int .i64 k, .int .i64 l, .int .u64 (hi : Int), .int .u64 (lo : Int), .string p]] w fun e w' => ∃ v r, e = .returned (.tuple #[v, .bool true]) ∧ SlR 9 1 true v n (srow ls) r ∧ Hp w w' r)) (ck cl : Int) (ci co : Nat) (cp : ByteArray) (hn : (n : Int) < nn) (ho : OfC k ls n (.agg #[.int .i64 ck, .int .i64 cl, .int .u64 (ci : Int), .int .u64 (co : Int), .string cp])) (w : World) : Calls Tryz.prog 41 #[.agg #[.int .i64 k, .int .i64 l, .int .u64 (hi : Int), .int .u64 (lo : Int), .string p], .int .i64 nn] w fun e w' => e = .returned (.agg #[.int .i64 ck, .int .i64 cl, .int .u64 (ci : Int), .int .u64 (co : Int), .string cp]) ∧ Below w.heap.size w w' := by
  have HS := hs
  have HO := ho
  clear hs ho
  have HH := Hp.nil w
  go_enter Tryz.func41, Tryz.ntmps41
  go_wp2_with (first | (go_at_call 54; (with_reducible refine (HS _).mono ?_); rintro e V ⟨v, r, rfl, HSl, hh⟩; replace HH := (HH.join hh HSl.own).comm; clear hh; (have hln := HSl.1); (rcases HSl.2 with ⟨rfl, rfl, rfl⟩ | ⟨g, cap, js, rfl, rfl, g1, g2, g3⟩); all_goals ((try simp only [List.cons_append, List.nil_append, List.append_nil] at HH); (try simp only [Act.put, zz]))) | (first | (go_at_call 55; (have HL := HH.lend 2 rfl); (with_reducible refine (HO.row _ _ _ _ (fun j hj => SlR.read (E := 9) (own := true) j (by have := hln; simp [srow] at this; omega)) HL).mono ?_); clear HL; rintro e V ⟨rfl, hb⟩; replace HH := HH.next hb; clear hb; (try simp only [Act.put, zz])) | (go_at_call 55; (with_reducible refine (HO.nil (by omega) _ _ _).mono ?_); rintro e V ⟨rfl, hb⟩; replace HH := HH.next hb; clear hb; (try simp only [Act.put, zz]))) | ((with_reducible show zX (Op.load _ _)); (refine wpl_load HH 1 rfl rfl rfl rfl rfl ?_; (try simp only [Act.put, zz]))) | ((with_reducible show zX (Op.binOp _ _ _ _ _)); (refine wpl_cmp (p := ?_) rfl rfl rfl ?_ ?_ ?_; rotate_left; (focus (go_simp; with_reducible rfl)); all_goals (intro hq; (try (contradiction)); (try simp only [zw] at hq); (try simp only [Act.put, zz])))) | ((with_reducible show zW (Op.store _ _ _)); (refine wpl_store HH 0 rfl rfl rfl rfl rfl rfl rfl rfl ?_; clear HH; intro V HH; simp only [Act.eval, zx, Value.cells, putl, zC, zB] at HH; (try simp only [Act.put, zz]))) | ((with_reducible show zW (Op.box _ _)); refine wpl_box HH rfl rfl rfl ?_; clear HH; intro b V HH; simp only [Act.eval, zx, Value.cells, putl, zC, zB] at HH; (try simp only [Act.put, zz])) | ((with_reducible show zW (Op.alloc _)); refine wpl_alloc HH rfl rfl ?_; clear HH; intro b V HH; simp only [Act.eval, zx, Value.cells, putl, zC, zB] at HH; (try simp only [Act.put, zz])) | ((with_reducible show Code.wp _ (Code.region _ _ true) _ _ _); (refine wp_tail_Hp (id := 8) [0, 1, 2, 3, 4] [5, 6] (by kernel_rfl) HH ?_; clear HH; (try dsimp only); (try simp only [pick, zy]); repeat' (first | ((with_reducible show wpB _ _ _ _ [] _); refine wpB_nil ?_; intro V HH; (try simp only [pick, zy]); (try simp only [Act.put, zz]); (try simp only [Value.cells] at HH)) | (((with_reducible show zU _); (first | ((with_reducible show zT (Op.move _)); refine wpB_move rfl rfl rfl ?_) | ((with_reducible show zT (Op.load _ _)); (refine wpB_load 1 rfl rfl rfl rfl rfl ?_)) | (refine wpB_val (v := ?_) rfl ?_ ?_; rotate_left; (focus (intro w9 hS9; go_simp; all_goals (with_reducible rfl)))))); all_goals (try simp only [Act.put, zz, Act.eval, zx]))))))
  all_goals (try (exfalso; omega))
  all_goals (refine bodyPost_ret (results_c rfl HH 0 rfl rfl rfl) rfl ⟨rfl, HH.below rfl⟩)

theorem SlR.cases2 {E k n m : Nat} {own : Bool} {v : Value} {xs : List Value} {r : List En} (h : SlR E k own v n xs r) (hm : m ≤ n) : (v = .slice none 0 0 ∧ n = 0 ∧ r = [] ∧ m = 0) ∨ ∃ g cap, ∃ js : List Value, v = .slice (some ⟨g, 0, none⟩) n cap ∧ r = [⟨g, .cells (xs ++ js).toArray E (0, 0), own⟩] ∧ (cap - n) * k ≤ js.length ∧ n ≤ cap ∧ cap ≤ maxLen := by
  rcases h.2 with ⟨h1, h2, h3⟩ | h2
  · exact .inl ⟨h1, h2, h3, by omega⟩
  · exact .inr h2

set_option maxRecDepth 100000 in
theorem run_sl118 {ρ : Operand → Value} {o : Oper} {x y : Operand} {g n cap p : Nat} (hop : o.op = .slice 118 x none (some y) none) (hx : ρ x = .slice (some ⟨g, 0, none⟩) n cap) (hy : ρ y = .int .i64 (p : Int)) (hp : p ≤ cap) (w : World) : (execOp ρ o).run Tryz.prog w = .ok (.value (.slice (some ⟨g, 0, none⟩) p cap)) w := by
  unfold execOp
  simp only [hop, Option.map_some, Option.map_none, hx, hy]
  have hq : (p : Int) ≤ (cap : Int) := by omega
  have hz : ¬ (p : Int) < 0 := by omega
  go_simp
  all_goals (try simp [hp, hq, hz, Addr.add])

set_option maxRecDepth 100000 in
set_option maxHeartbeats 4000000 in
theorem refCut_mid (k l : Int) (hi lo : Nat) (p : ByteArray) (m : Nat) (n : Nat) (ls : List ByteArray) (hs : (∀ w, Calls Tryz.prog 54 #[.agg #[.int .i64 k, .int .i64 l, .int .u64 (hi : Int), .int .u64 (lo : Int), .string p]] w fun e w' => ∃ v r, e = .returned (.tuple #[v, .bool true]) ∧ SlR 9 1 true v n (srow ls) r ∧ Hp w w' r)) (ck cl : Int) (ci co : Nat) (cp : ByteArray) (hn : m ≤ n) (ho : OfC k ls m (.agg #[.int .i64 ck, .int .i64 cl, .int .u64 (ci : Int), .int .u64 (co : Int), .string cp])) (w : World) : Calls Tryz.prog 41 #[.agg #[.int .i64 k, .int .i64 l, .int .u64 (hi : Int), .int .u64 (lo : Int), .string p], .int .i64 (m : Int)] w fun e w' => e = .returned (.agg #[.int .i64 ck, .int .i64 cl, .int .u64 (ci : Int), .int .u64 (co : Int), .string cp]) ∧ Below w.heap.size w w' := by
  have HS := hs
  have HO := ho
  clear hs ho
  have HH := Hp.nil w
  go_enter Tryz.func41, Tryz.ntmps41
  go_wp2_with (first | (go_at_call 54; (with_reducible refine (HS _).mono ?_); rintro e V ⟨v, r, rfl, HSl, hh⟩; replace HH := (HH.join hh HSl.own).comm; clear hh; (have hln := HSl.1); (rcases HSl.cases2 hn with ⟨rfl, rfl, rfl, rfl⟩ | ⟨g, cap, js, rfl, rfl, g1, g2, g3⟩); all_goals ((try simp only [List.cons_append, List.nil_append, List.append_nil] at HH); (try simp only [Act.put, zz]))) | (first | (go_at_call 55; (have HL := HH.lend 2 rfl); (with_reducible refine (HO.row _ _ _ _ (fun j hj => SlR.read (E := 9) (own := true) j (by have := hln; simp [srow] at this; omega)) HL).mono ?_); clear HL; rintro e V ⟨rfl, hb⟩; replace HH := HH.next hb; clear hb; (try simp only [Act.put, zz])) | (go_at_call 55; (with_reducible refine (HO.nil (by omega) _ _ _).mono ?_); rintro e V ⟨rfl, hb⟩; replace HH := HH.next hb; clear hb; (try simp only [Act.put, zz]))) | ((with_reducible show zX (Op.load _ _)); (refine wpl_load HH 1 rfl rfl rfl rfl rfl ?_; (try simp only [Act.put, zz]))) | ((with_reducible show zX (Op.binOp _ _ _ _ _)); (refine wpl_cmp (p := ?_) rfl rfl rfl ?_ ?_ ?_; rotate_left; (focus (go_simp; with_reducible rfl)); all_goals (intro hq; (try (contradiction)); (try simp only [zw] at hq); (try simp only [Act.put, zz])))) | ((with_reducible show zW (Op.store _ _ _)); (refine wpl_store HH 0 rfl rfl rfl rfl rfl rfl rfl rfl ?_; clear HH; intro V HH; simp only [Act.eval, zx, Value.cells, putl, zC, zB] at HH; (try simp only [Act.put, zz]))) | ((with_reducible show zW (Op.box _ _)); refine wpl_box HH rfl rfl rfl ?_; clear HH; intro b V HH; simp only [Act.eval, zx, Value.cells, putl, zC, zB] at HH; (try simp only [Act.put, zz])) | ((with_reducible show zW (Op.alloc _)); refine wpl_alloc HH rfl rfl ?_; clear HH; intro b V HH; simp only [Act.eval, zx, Value.cells, putl, zC, zB] at HH; (try simp only [Act.put, zz])) | ((with_reducible show Code.wp _ (Code.region _ _ true) _ _ _); (refine wp_tail_Hp (id := 8) [0, 1, 2, 3, 4] [5, 6] (by kernel_rfl) HH ?_; clear HH; (try dsimp only); (try simp only [pick, zy]); repeat' (first | ((with_reducible show wpB _ _ _ _ [] _); refine wpB_nil ?_; intro V HH; (try simp only [pick, zy]); (try simp only [Act.put, zz]); (try simp only [Value.cells] at HH)) | (((with_reducible show zU _); (first | ((with_reducible show zT (Op.move _)); refine wpB_move rfl rfl rfl ?_) | ((with_reducible show zT (Op.slice 118 _ _ _ _)); refine wpB_val rfl (fun w9 _ => run_sl118 rfl rfl rfl (by omega) w9) ?_) | ((with_reducible show zT (Op.load _ _)); (refine wpB_load 1 rfl rfl rfl rfl rfl ?_)) | (refine wpB_val (v := ?_) rfl ?_ ?_; rotate_left; (focus (intro w9 hS9; go_simp; all_goals (with_reducible rfl)))))); all_goals (try simp only [Act.put, zz, Act.eval, zx]))))))
  all_goals (try (exfalso; omega))
  all_goals (refine bodyPost_ret (results_c rfl HH 0 rfl rfl rfl) rfl ⟨rfl, HH.below rfl⟩)

end Go.Proofs.YtcbahkfbdlhabaaGreatDoor
