/- A part of the proof that the law TopThree returns true for all arguments of bulk at most 1048576 (no other condition). Here: The document's keys: Letters, Of, Right, Cut. -/
import Derived.Test.YtcbahkfbdlhabaaGreatDoorK08
namespace Go.Proofs.YtcbahkfbdlhabaaGreatDoor
set_option linter.unusedVariables false
set_option linter.unusedSimpArgs false
open Go.RowKit
attribute [local go_sem] index24_0 index24_1 field34_0 field34_1
attribute [local irreducible] wpList Code.wp wpB

def bitV (hi lo i : Nat) : Bool := (hi * M + lo).testBit (127 - i)
def bitL (hi lo i : Nat) : ByteArray := if bitV hi lo i then ⟨#[49]⟩ else ⟨#[48]⟩
theorem bitV_hi {hi lo i : Nat} (h2 : lo < M) (hi' : i < 64) : hi / 2 ^ (63 - i) % 2 = (bitV hi lo i).toNat := by
  unfold bitV
  rw [Nat.toNat_testBit]
  have e : (hi * M + lo) / 2 ^ (127 - i) = hi / 2 ^ (63 - i) := by
    rw [show 127 - i = 64 + (63 - i) by omega, Nat.pow_add, ← Nat.div_div_eq_div_mul]
    congr 1
    have hM : M = 2 ^ 64 := by decide
    rw [← hM, Nat.mul_comm, Nat.mul_add_div (by rw [M_eq]; omega), Nat.div_eq_of_lt h2, Nat.add_zero]
  rw [e]
theorem bitV_lo {hi lo i : Nat} (h1 : 64 ≤ i) (h2 : i < 128) : lo / 2 ^ (127 - i) % 2 = (bitV hi lo i).toNat := by
  unfold bitV
  rw [Nat.toNat_testBit]
  have hM : M = 2 ^ (127 - i + 1) * 2 ^ (i - 64) := by
    rw [← Nat.pow_add, show 127 - i + 1 + (i - 64) = 64 by omega]
    decide
  rw [hM, Nat.pow_succ]
  have e : hi * (2 ^ (127 - i) * 2 * 2 ^ (i - 64)) = 2 ^ (127 - i) * (2 * (hi * 2 ^ (i - 64))) := by
    ac_rfl
  rw [e, Nat.mul_add_div (Nat.two_pow_pos _)]
  omega
theorem refBit_gives (hi lo i : Nat) (h1 : hi < M) (h2 : lo < M) (h3 : i < 128) : Gives 63 #[.int .u64 (hi : Int), .int .u64 (lo : Int), .int .i64 (i : Int)] (.int .u64 (((bitV hi lo i).toNat : Nat) : Int)) := fun w => by
  rcases Nat.lt_or_ge i 64 with h | h
  · rw [← bitV_hi h2 h]
    exact refBit_lo hi lo i h1 h2 h w
  · rw [← bitV_lo h h3]
    exact refBit_hi hi lo i h1 h2 h h3 w
theorem maskN_bit (m i : Nat) (hm : m ≤ 128) : (maskN m).testBit i = (decide (128 - m ≤ i) && decide (i < 128)) := by
  unfold maskN
  rw [MM_pow]
  have e : 2 ^ 128 - 2 ^ (128 - m) = (2 ^ m - 1) * 2 ^ (128 - m) := by
    rw [Nat.sub_mul, Nat.one_mul, ← Nat.pow_add, show m + (128 - m) = 128 by omega]
  rw [e, Nat.testBit_mul_two_pow, Nat.testBit_two_pow_sub_one]
  by_cases h : 128 - m ≤ i
  · simp [h]
    omega
  · simp [h]
theorem topN_bit (n : Nat) (l : Int) (i : Nat) (hn : n < MM) : (topN n l).testBit i = (n.testBit i && decide (128 - min l.toNat 128 ≤ i)) := by
  unfold topN
  rw [Nat.testBit_and, maskN_bit _ _ (by omega)]
  by_cases hi : i < 128
  · simp [hi]
  · have : n.testBit i = false := Nat.testBit_lt_two_pow (Nat.lt_of_lt_of_le hn (by rw [MM_pow]; exact Nat.pow_le_pow_right (by omega) (by omega)))
    simp [this]
theorem topN_top (n : Nat) (a b : Int) (hn : n < MM) : topN (topN n a) b = topN n (min a b) := by
  apply Nat.eq_of_testBit_eq
  intro i
  rw [topN_bit _ _ _ (topN_lt _ _), topN_bit _ _ _ hn, topN_bit _ _ _ hn, Bool.and_assoc]
  congr 1
  rw [Bool.eq_iff_iff]
  simp
  omega
theorem topN_same (n : Nat) (l : Int) (hn : n < MM) : topN n l = n ↔ ∀ j, l.toNat ≤ j → j < 128 → n.testBit (127 - j) = false := by
  constructor
  · intro h j h1 h2
    rw [← h, topN_bit _ _ _ hn, decide_eq_false (by omega), Bool.and_false]
  · intro h
    apply Nat.eq_of_testBit_eq
    intro i
    rw [topN_bit _ _ _ hn]
    by_cases hi : 128 - min l.toNat 128 ≤ i
    · simp [hi]
    · have := h (127 - i) (by omega) (by omega)
      rw [show 127 - (127 - i) = i by omega] at this
      rw [this, Bool.false_and]
theorem halves {n : Nat} : n / M * M + n % M = n := by rw [Nat.mul_comm]; exact Nat.div_add_mod n M
theorem topHL_same {hi lo : Nat} (l : Int) (h2 : lo < M) : topN (hi * M + lo) l = hi * M + lo ↔ hi = topH hi lo l ∧ lo = topL hi lo l := by
  unfold topH topL
  have e1 : (hi * M + lo) / M = hi := by rw [M_eq] at *; omega
  have e2 : (hi * M + lo) % M = lo := by rw [M_eq] at *; omega
  constructor
  · intro h
    rw [h]
    exact ⟨e1.symm, e2.symm⟩
  · rintro ⟨a, b⟩
    rw [← halves (n := topN (hi * M + lo) l), ← a, ← b]

theorem bit1 (b : Bool) : (((b.toNat : Nat) : Int) == 1) = b := by cases b <;> rfl
theorem srow_range (f : Nat → ByteArray) (n : Nat) : srow ((List.range (n + 1)).map f) = srow ((List.range n).map f) ++ [.string (f n)] := by
  rw [List.range_succ, List.map_append, List.map_cons, List.map_nil, ← srow_snoc]

set_option maxRecDepth 100000 in
set_option maxHeartbeats 4000000 in
theorem refLetters_bad (k l : Int) (hi lo : Nat) (p : ByteArray) (wd : Int) (hk : k ≠ 3) (hw : Gives 61 #[.int .i64 k] (.int .i64 wd)) (hb : ¬ (wd ≠ 0 ∧ 0 ≤ l ∧ l ≤ wd ∧ p.toList = [])) (w : World) : Calls Tryz.prog 54 #[.agg #[.int .i64 k, .int .i64 l, .int .u64 (hi : Int), .int .u64 (lo : Int), .string p]] w fun e w' => e = .returned (.tuple #[.slice none 0 0, .bool false]) ∧ Below w.heap.size w w' := by
  have HW := hw
  clear hw
  have HH := Hp.nil w
  go_enter Tryz.func54, Tryz.ntmps54
  go_wp2_with (first | ((with_reducible show zX (Op.load _ _)); (refine wpl_load HH 0 rfl rfl rfl rfl rfl ?_; (try simp only [Act.put, zz]))) | ((with_reducible show zX (Op.binOp _ _ _ _ _)); (refine wpl_cmp (p := ?_) rfl rfl rfl ?_ ?_ ?_; rotate_left; (focus (go_simp; with_reducible rfl)); all_goals (intro hq; (try (fail)); (try simp only [zw] at hq); (try simp only [Act.put, zz])))) | ((with_reducible show zW (Op.box _ _)); refine wpl_box HH rfl rfl rfl ?_; clear HH; intro b V HH; simp only [Act.eval, zx, Value.cells, putl, zC, zB] at HH; (try simp only [Act.put, zz])) | ((with_reducible show Code.wp _ (Code.region _ _ true) _ _ _); (refine wp_tail_Hp (id := 6) [0, 1, 2, 3, 4, 5, 6, 7, 8, 9, 10, 11, 12, 13, 14, 15, 16, 17, 18, 19, 20, 21] [] (by kernel_rfl) HH ?_; clear HH; (try dsimp only); (try simp only [pick, zy]); repeat' (first | ((with_reducible show wpB _ _ _ _ [] _); refine wpB_nil ?_; intro V HH; (try simp only [pick, zy]); (try simp only [Act.put, zz]); (try simp only [Value.cells] at HH)) | ((first | ((with_reducible show zU _); (first | ((with_reducible show zT (Op.move _)); refine wpB_move rfl rfl rfl ?_) | ((with_reducible show zT (Op.load _ _)); refine wpB_load 0 rfl rfl rfl rfl rfl ?_) | ((with_reducible show zT (Op.call _)); (refine wpB_callE (f := ?_) (args := ?_) (v := ?_) rfl ?_ ?_ ?_; rotate_left 3; (focus (intro w9 hS9; go_simp; (refine ⟨?_, ?_⟩ <;> with_reducible rfl))); (focus (with_reducible exact (HW))))) | ((with_reducible show zT (Op.binOp _ _ _ _ _)); (refine wpB_bool (p := ?_) rfl ?_ ?_ ?_; rotate_left; (focus (intro w9 hS9; go_simp; with_reducible rfl)); all_goals (intro hq; (try (fail))))) | ((with_reducible show zT (Op.pick _ _ _)); (refine wpB_bool (p := ?_) rfl ?_ ?_ ?_; rotate_left; (focus (intro w9 hS9; go_simp; with_reducible rfl)); all_goals (intro hq; (try (contradiction))))) | (refine wpB_val (v := ?_) rfl ?_ ?_; rotate_left; (focus (intro w9 hS9; go_simp; all_goals (with_reducible rfl)))))) | ((with_reducible show zV _); (first | (refine wpB_skip (by simp only [Region.wanted, yielded, zy, Option.bind_some]; decide) ?_) | ((with_reducible show zT (Op.load _ _)); refine wpB_load 0 rfl rfl rfl (by simp only [Region.wanted, yielded, zy, Option.bind_some]; decide) rfl ?_) | ((with_reducible show zT (Op.call _)); (refine wpB_callE (f := ?_) (args := ?_) (v := ?_) (by simp only [Region.wanted, yielded, zy, Option.bind_some]; decide) ?_ ?_ ?_; rotate_left 3; (focus (intro w9 hS9; go_simp; (refine ⟨?_, ?_⟩ <;> with_reducible rfl))); (focus (with_reducible exact (HW))))) | ((with_reducible show zT (Op.binOp _ _ _ _ _)); (refine wpB_bool (p := ?_) (by simp only [Region.wanted, yielded, zy, Option.bind_some]; decide) ?_ ?_ ?_; rotate_left; (focus (intro w9 hS9; go_simp; with_reducible rfl)); all_goals (intro hq; (try (fail))))) | (refine wpB_val (v := ?_) (by simp only [Region.wanted, yielded, zy, Option.bind_some]; decide) ?_ ?_; rotate_left; (focus (intro w9 hS9; go_simp; all_goals (with_reducible rfl))))))); all_goals (try simp only [Act.put, zz, Act.eval, zx]))))))
  all_goals (first | (go_ret2; exact ⟨rfl, HH.below rfl⟩) | (exfalso; clear HH HW; simp_all <;> omega))

set_option maxRecDepth 100000 in
set_option maxHeartbeats 4000000 in
theorem refLetters_bits (k l : Int) (hi lo : Nat) (p : ByteArray) (wd : Int) (L : Nat) (h1 : hi < M) (h2 : lo < M) (hk : k ≠ 3) (hw : Gives 61 #[.int .i64 k] (.int .i64 wd)) (hwd : wd ≠ 0) (hwd2 : wd ≤ 128) (hl : l = (L : Int)) (hl2 : l ≤ wd) (hp : p.toList = []) (w : World) : Calls Tryz.prog 54 #[.agg #[.int .i64 k, .int .i64 l, .int .u64 (hi : Int), .int .u64 (lo : Int), .string p]] w fun e w' => (topN (hi * M + lo) l = hi * M + lo ∧ ∃ v r, e = .returned (.tuple #[v, .bool true]) ∧ SlR 9 1 true v L (srow ((List.range L).map (bitL hi lo))) r ∧ Hp w w' r) ∨ (topN (hi * M + lo) l ≠ hi * M + lo ∧ e = .returned (.tuple #[.slice none 0 0, .bool false]) ∧ Below w.heap.size w w') := by
  have HW := hw
  clear hw
  have HBT := fun (j : Nat) (hj : j < 128) => refBit_gives hi lo j h1 h2 hj
  have HH := Hp.nil w
  go_enter Tryz.func54, Tryz.ntmps54
  go_wp2_with (first | ((with_reducible show zX (Op.load _ _)); (refine wpl_load HH 0 rfl rfl rfl rfl rfl ?_; (try simp only [Act.put, zz]))) | ((with_reducible show zX (Op.binOp _ _ _ _ _)); (refine wpl_cmp (p := ?_) rfl rfl rfl ?_ ?_ ?_; rotate_left; (focus (go_simp; with_reducible rfl)); all_goals (intro hq; (try (fail)); (try simp only [zw] at hq); (try simp only [Act.put, zz])))) | ((with_reducible show zW (Op.box _ _)); refine wpl_box HH rfl rfl rfl ?_; clear HH; intro b V HH; simp only [Act.eval, zx, Value.cells, putl, zC, zB] at HH; (try simp only [Act.put, zz])) | ((with_reducible show Code.wp _ (Code.region _ _ true) _ _ _); (refine wp_tail_Hp (id := 6) [0, 1, 2, 3, 4, 5, 6, 7, 8, 9, 10, 11, 12, 13, 14, 15, 16, 17, 18, 19, 20, 21] [] (by kernel_rfl) HH ?_; clear HH; (try dsimp only); (try simp only [pick, zy]); repeat' (first | ((with_reducible show wpB _ _ _ _ [] _); refine wpB_nil ?_; intro V HH; (try simp only [pick, zy]); (try simp only [Act.put, zz]); (try simp only [Value.cells] at HH)) | ((first | ((with_reducible show zU _); (first | ((with_reducible show zT (Op.move _)); refine wpB_move rfl rfl rfl ?_) | ((with_reducible show zT (Op.load _ _)); refine wpB_load 0 rfl rfl rfl rfl rfl ?_) | ((with_reducible show zT (Op.call _)); (refine wpB_callE (f := ?_) (args := ?_) (v := ?_) rfl ?_ ?_ ?_; rotate_left 3; (focus (intro w9 hS9; go_simp; (refine ⟨?_, ?_⟩ <;> with_reducible rfl))); (focus (with_reducible exact (HW))))) | ((with_reducible show zT (Op.binOp _ _ _ _ _)); (refine wpB_bool (p := ?_) rfl ?_ ?_ ?_; rotate_left; (focus (intro w9 hS9; go_simp; with_reducible rfl)); all_goals (intro hq; (try (fail))))) | ((with_reducible show zT (Op.pick _ _ _)); (refine wpB_bool (p := ?_) rfl ?_ ?_ ?_; rotate_left; (focus (intro w9 hS9; go_simp; with_reducible rfl)); all_goals (intro hq; (try (contradiction))))) | (refine wpB_val (v := ?_) rfl ?_ ?_; rotate_left; (focus (intro w9 hS9; go_simp; all_goals (with_reducible rfl)))))) | ((with_reducible show zV _); (first | (refine wpB_skip (by simp only [Region.wanted, yielded, zy, Option.bind_some]; decide) ?_) | ((with_reducible show zT (Op.load _ _)); refine wpB_load 0 rfl rfl rfl (by simp only [Region.wanted, yielded, zy, Option.bind_some]; decide) rfl ?_) | ((with_reducible show zT (Op.call _)); (refine wpB_callE (f := ?_) (args := ?_) (v := ?_) (by simp only [Region.wanted, yielded, zy, Option.bind_some]; decide) ?_ ?_ ?_; rotate_left 3; (focus (intro w9 hS9; go_simp; (refine ⟨?_, ?_⟩ <;> with_reducible rfl))); (focus (with_reducible exact (HW))))) | ((with_reducible show zT (Op.binOp _ _ _ _ _)); (refine wpB_bool (p := ?_) (by simp only [Region.wanted, yielded, zy, Option.bind_some]; decide) ?_ ?_ ?_; rotate_left; (focus (intro w9 hS9; go_simp; with_reducible rfl)); all_goals (intro hq; (try (contradiction))))) | (refine wpB_val (v := ?_) (by simp only [Region.wanted, yielded, zy, Option.bind_some]; decide) ?_ ?_; rotate_left; (focus (intro w9 hS9; go_simp; all_goals (with_reducible rfl))))))); all_goals (try simp only [Act.put, zz, Act.eval, zx]))))))
  all_goals (try (exfalso; clear HH HW HBT; simp_all <;> omega; done))
  have e0 : min 0 L = 0 := by omega
  go_loopw [6, 7] (fun ls i wr => ∃ (i' : Nat) (a : Option Addr) (c : Nat) (r : List En), i' ≤ 128 ∧ i = .int .i64 i' ∧ ls = .slice a (min i' L) c ∧ SlR 9 1 true (.slice a (min i' L) c) (min i' L) (srow ((List.range (min i' L)).map (bitL hi lo))) r ∧ Hp w wr (Hp.lst HH ++ r) ∧ ∀ j, L ≤ j → j < i' → bitV hi lo j = false) (fun _ i => fun _ => (128 - (intOf i).toNat))
  case atStart => exact ⟨0, none, 0, [], by omega, rfl, by rw [e0], by rw [e0]; exact SlR.nil _ _ _, by simpa using HH, by omega⟩
  case round =>
    obtain ⟨i, a, c, r, hi128, rfl, rfl, HS, HR, hinv⟩ := hrel
    dsimp only [Hp.lst, List.cons_append, List.nil_append] at HR
    have HH := HR
    clear HR
    have HI := Lib.hid hinv
    clear hinv
    obtain ⟨n, hn⟩ : ∃ n, n = min i L := ⟨_, rfl⟩
    rw [← hn] at HS
    have hbt : i < 128 → Gives 63 #[.int .u64 (hi : Int), .int .u64 (lo : Int), .int .i64 (i : Int)] (.int .u64 (((bitV hi lo i).toNat : Nat) : Int)) := fun h => HBT i h
    rw [← hn]
    have hn128 : n ≤ 128 := by omega
    have HN := Lib.hid hn
    clear hn
    go_wp2_with (first | ((with_reducible show zW (Op.buildSlice 118 _ _)); refine wpl_bs118 HH rfl rfl rfl ?_; clear HH; intro b V HH; (try simp only [Act.put, zz])) | (at_builtin; (refine wpl_append1 elt118 HS HH rfl rfl rfl rfl rfl rfl (by omega) (by omega) ?_); clear HH HS; intro v r V HS HH; obtain ⟨a, c, rfl⟩ := HS.form; (try simp only [Act.put, zz])) | (go_at_call 63; (with_reducible refine ((hbt (by omega)) _).mono ?_); rintro e V ⟨rfl, hb⟩; replace HH := HH.next hb; clear hb) | ((with_reducible show zX (Op.load _ _)); (refine wpl_load HH 0 rfl rfl rfl rfl rfl ?_; (try simp only [Act.put, zz]))) | ((with_reducible show zX (Op.binOp _ _ _ _ _)); (refine wpl_cmp (p := ?_) rfl rfl rfl ?_ ?_ ?_; rotate_left; (focus (go_simp; with_reducible rfl)); all_goals (intro hq; (try (contradiction)); (try simp only [zw] at hq); (try simp only [Act.put, zz])))))
    all_goals (try (exfalso; omega))
    · have h9 := (bit1 (bitV hi lo i)).symm.trans (by assumption)
      go_ret2
      refine .inr ⟨fun h => ?_, rfl, HH.below (by rw [List.all_cons]; exact List.all_eq_true.2 HS.own)⟩
      rw [topN_same _ _ (join_lt h1 h2)] at h
      have := h i (by omega) (by omega)
      unfold bitV at h9
      rw [this] at h9
      cases h9
    · have h9 := (bit1 (bitV hi lo i)).symm.trans (by assumption)
      have hN := HN.out
      have e1 : min (i + 1) L = n + 1 := by omega
      have e2 : n = i := by omega
      refine ⟨⟨i + 1, a, c, r, by omega, nat_succ i, by rw [e1], ?_, HH, fun j hj1 hj2 => by omega⟩, by simp [intOf]; omega⟩
      rw [e1, srow_range, bitL, e2, h9, ← e2]
      exact HS
    · have h9 := (bit1 (bitV hi lo i)).symm.trans (by assumption)
      have hN := HN.out
      have e1 : min (i + 1) L = n := by omega
      refine ⟨⟨i + 1, a, c, r, by omega, nat_succ i, by rw [e1], by rw [e1]; exact HS, HH, fun j hj1 hj2 => ?_⟩, by simp [intOf]; omega⟩
      rcases Nat.lt_or_ge j i with h | h
      · exact HI.out j hj1 h
      · rw [show j = i by omega]
        exact h9
    · have h9 := (bit1 (bitV hi lo i)).symm.trans (by assumption)
      have hN := HN.out
      have e1 : min (i + 1) L = n + 1 := by omega
      have e2 : n = i := by omega
      refine ⟨⟨i + 1, a, c, r, by omega, nat_succ i, by rw [e1], ?_, HH, fun j hj1 hj2 => by omega⟩, by simp [intOf]; omega⟩
      rw [e1, srow_range, bitL, e2, h9, ← e2]
      exact HS
    · have hN := HN.out
      have e2 : n = L := by omega
      subst e2
      have hI := HI.out
      go_ret2
      refine .inl ⟨?_, _, _, rfl, HS, HH.drop rfl⟩
      rw [topN_same _ _ (join_lt h1 h2)]
      intro j hj1 hj2
      exact hI j (by omega) (by omega)

set_option maxRecDepth 100000 in
set_option maxHeartbeats 4000000 in
theorem refSplit_nil  (w : World) : Calls Tryz.prog 62 #[.string ⟨#[]⟩] w fun e w' => e = .returned (.tuple #[.slice none 0 0, .bool true]) ∧ Below w.heap.size w w' := by
  have HH := Hp.nil w
  go_enter Tryz.func62, Tryz.ntmps62
  go_wp2_with (first | ((with_reducible show Code.wp _ (Code.loop _) _ _ _); refine wp_loop_rounds 1 ?_; rw [rounds_succ]) | ((with_reducible show zX (Op.binOp _ _ _ _ _)); (refine wpl_cmp (p := ?_) rfl rfl rfl ?_ ?_ ?_; rotate_left; (focus (go_simp; with_reducible rfl)); all_goals (intro hq; (try (contradiction)); (try simp only [zw] at hq); (try simp only [Act.put, zz])))) | ((with_reducible show zY (Op.binOp _ _ _ _ _)); (refine wpl_cmp (p := ?_) rfl rfl (by simp only [Region.wanted, yielded, zy, Option.bind_some]; decide) ?_ ?_ ?_; rotate_left; (focus (go_simp; with_reducible rfl)); all_goals (intro hq; (try (contradiction)); (try simp only [zw] at hq); (try simp only [Act.put, zz])))))
  all_goals (go_ret2; exact ⟨rfl, HH.below rfl⟩)
theorem refSplit_good (p : ByteArray) (hp : p.size < 2 ^ 62) (ho : okL p = true) : (∀ w, Calls Tryz.prog 62 #[.string p] w fun e w' => ∃ v r, e = .returned (.tuple #[v, .bool true]) ∧ SlR 9 1 true v (labsD p).length (srow (labsD p)) r ∧ Hp w w' r) := fun w => by
  unfold labsD
  by_cases h0 : p.size = 0
  · have e : p = ⟨#[]⟩ := by
      cases p with
      | mk d => congr; exact Array.eq_empty_of_size_eq_zero h0
    subst e
    refine (refSplit_nil w).mono fun e w' h => ⟨_, [], h.1, ?_, ?_⟩
    · rw [if_pos h0]; exact SlR.nil _ _ _
    · exact (Hp.nil w).next h.2
  · rw [if_neg h0]
    refine (refSplit_walk p hp (by omega) w).mono fun e w' h => ?_
    rcases h with ⟨_, h⟩ | ⟨h, _⟩
    · obtain ⟨v, r, h1, h2, h3⟩ := h
      exact ⟨v, r, h1, h2, h3⟩
    · rw [ho] at h; cases h
theorem refSplit_bad (p : ByteArray) (hp : p.size < 2 ^ 62) (ho : okL p = false) : Gives 62 #[.string p] (.tuple #[.slice none 0 0, .bool false]) := fun w => by
  have h0 : p.size ≠ 0 := fun h => by
    unfold okL at ho
    rw [decide_eq_true h] at ho
    cases ho
  refine (refSplit_walk p hp (by omega) w).mono fun e w' h => ?_
  rcases h with ⟨h, _⟩ | ⟨_, h⟩
  · rw [ho] at h; cases h
  · exact h

set_option maxRecDepth 100000 in
set_option maxHeartbeats 4000000 in
theorem refLetters3_bad (l : Int) (hi lo : Nat) (p : ByteArray) (hs : Gives 62 #[.string p] (.tuple #[.slice none 0 0, .bool false])) (w : World) : Calls Tryz.prog 54 #[.agg #[.int .i64 3, .int .i64 l, .int .u64 (hi : Int), .int .u64 (lo : Int), .string p]] w fun e w' => e = .returned (.tuple #[.slice none 0 0, .bool false]) ∧ Below w.heap.size w w' := by
  have HS := hs
  clear hs
  have HH := Hp.nil w
  go_enter Tryz.func54, Tryz.ntmps54
  go_wp2_with (first | (go_at_call 62; (with_reducible refine ((HS) _).mono ?_); rintro e V ⟨rfl, hb⟩; replace HH := HH.next hb; clear hb) | ((with_reducible show zX (Op.load _ _)); (refine wpl_load HH 0 rfl rfl rfl rfl rfl ?_; (try simp only [Act.put, zz]))) | ((with_reducible show zX (Op.binOp _ _ _ _ _)); (refine wpl_cmp (p := ?_) rfl rfl rfl ?_ ?_ ?_; rotate_left; (focus (go_simp; with_reducible rfl)); all_goals (intro hq; (try (contradiction)); (try simp only [zw] at hq); (try simp only [Act.put, zz])))) | ((with_reducible show zW (Op.box _ _)); refine wpl_box HH rfl rfl rfl ?_; clear HH; intro b V HH; simp only [Act.eval, zx, Value.cells, putl, zC, zB] at HH; (try simp only [Act.put, zz])))
  all_goals (go_ret2; exact ⟨rfl, HH.below rfl⟩)

set_option maxRecDepth 100000 in
set_option maxHeartbeats 4000000 in
theorem refLetters3_no (l : Int) (hi lo : Nat) (p : ByteArray) (n : Nat) (ps : List ByteArray) (hs : (∀ w, Calls Tryz.prog 62 #[.string p] w fun e w' => ∃ v r, e = .returned (.tuple #[v, .bool true]) ∧ SlR 9 1 true v n (srow ps) r ∧ Hp w w' r)) (hb : ¬ (l = (n : Int) ∧ hi = 0 ∧ lo = 0)) (w : World) : Calls Tryz.prog 54 #[.agg #[.int .i64 3, .int .i64 l, .int .u64 (hi : Int), .int .u64 (lo : Int), .string p]] w fun e w' => e = .returned (.tuple #[.slice none 0 0, .bool false]) ∧ Below w.heap.size w w' := by
  have HS := hs
  clear hs
  have HH := Hp.nil w
  go_enter Tryz.func54, Tryz.ntmps54
  go_wp2_with (first | (go_at_call 62; (with_reducible refine (HS _).mono ?_); rintro e V ⟨v, r, rfl, HSl, hh⟩; replace HH := (HH.join hh HSl.own).comm; clear hh; (try simp only [List.cons_append, List.nil_append] at HH); (obtain ⟨a, c, rfl⟩ := HSl.form); (try simp only [Act.put, zz])) | ((with_reducible show zX (Op.load _ _)); (refine wpl_load HH 0 rfl rfl rfl rfl rfl ?_; (try simp only [Act.put, zz]))) | ((with_reducible show zX (Op.binOp _ _ _ _ _)); (refine wpl_cmp (p := ?_) rfl rfl rfl ?_ ?_ ?_; rotate_left; (focus (go_simp; with_reducible rfl)); all_goals (intro hq; (try (contradiction)); (try simp only [zw] at hq); (try simp only [Act.put, zz])))) | ((with_reducible show zY (Op.load _ _)); (refine wpl_load HH 0 rfl rfl rfl (by simp only [Region.wanted, yielded, zy, Option.bind_some]; decide) rfl ?_; (try simp only [Act.put, zz]))) | ((with_reducible show zY (Op.binOp _ _ _ _ _)); (refine wpl_cmp (p := ?_) rfl rfl (by simp only [Region.wanted, yielded, zy, Option.bind_some]; decide) ?_ ?_ ?_; rotate_left; (focus (go_simp; with_reducible rfl)); all_goals (intro hq; (try (fail)); (try simp only [zw] at hq); (try simp only [Act.put, zz])))) | ((with_reducible show zW (Op.box _ _)); refine wpl_box HH rfl rfl rfl ?_; clear HH; intro b V HH; simp only [Act.eval, zx, Value.cells, putl, zC, zB] at HH; (try simp only [Act.put, zz])))
  all_goals (first | (go_ret2; exact ⟨rfl, HH.below (by rw [List.all_cons]; exact List.all_eq_true.2 HSl.own)⟩) | (exfalso; clear HH HS HSl; simp_all <;> omega))

set_option maxRecDepth 100000 in
set_option maxHeartbeats 4000000 in
theorem refLetters3_yes (p : ByteArray) (n : Nat) (ps : List ByteArray) (hs : (∀ w, Calls Tryz.prog 62 #[.string p] w fun e w' => ∃ v r, e = .returned (.tuple #[v, .bool true]) ∧ SlR 9 1 true v n (srow ps) r ∧ Hp w w' r)) (w : World) : Calls Tryz.prog 54 #[.agg #[.int .i64 3, .int .i64 n, .int .u64 0, .int .u64 0, .string p]] w fun e w' => ∃ v r, e = .returned (.tuple #[v, .bool true]) ∧ SlR 9 1 true v n (srow ps) r ∧ Hp w w' r := by
  have HS := hs
  clear hs
  have HH := Hp.nil w
  go_enter Tryz.func54, Tryz.ntmps54
  go_wp2_with (first | (go_at_call 62; (with_reducible refine (HS _).mono ?_); rintro e V ⟨v, r, rfl, HSl, hh⟩; replace HH := (HH.join hh HSl.own).comm; clear hh; (try simp only [List.cons_append, List.nil_append] at HH); (obtain ⟨a, c, rfl⟩ := HSl.form); (try simp only [Act.put, zz])) | ((with_reducible show zX (Op.load _ _)); (refine wpl_load HH 0 rfl rfl rfl rfl rfl ?_; (try simp only [Act.put, zz]))) | ((with_reducible show zX (Op.binOp _ _ _ _ _)); (refine wpl_cmp (p := ?_) rfl rfl rfl ?_ ?_ ?_; rotate_left; (focus (go_simp; with_reducible rfl)); all_goals (intro hq; (try (contradiction)); (try simp only [zw] at hq); (try simp only [Act.put, zz])))) | ((with_reducible show zY (Op.load _ _)); (refine wpl_load HH 0 rfl rfl rfl (by simp only [Region.wanted, yielded, zy, Option.bind_some]; decide) rfl ?_; (try simp only [Act.put, zz]))) | ((with_reducible show zY (Op.binOp _ _ _ _ _)); (refine wpl_cmp (p := ?_) rfl rfl (by simp only [Region.wanted, yielded, zy, Option.bind_some]; decide) ?_ ?_ ?_; rotate_left; (focus (go_simp; with_reducible rfl)); all_goals (intro hq; (try (contradiction)); (try simp only [zw] at hq); (try simp only [Act.put, zz])))) | ((with_reducible show zW (Op.box _ _)); refine wpl_box HH rfl rfl rfl ?_; clear HH; intro b V HH; simp only [Act.eval, zx, Value.cells, putl, zC, zB] at HH; (try simp only [Act.put, zz])))
  all_goals (go_ret2; exact ⟨_, _, rfl, HSl, HH.drop rfl⟩)

end Go.Proofs.YtcbahkfbdlhabaaGreatDoor
