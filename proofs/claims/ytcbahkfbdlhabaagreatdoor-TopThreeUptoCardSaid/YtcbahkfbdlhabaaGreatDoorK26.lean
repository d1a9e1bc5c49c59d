/- A part of the proof that the law TopThree returns true for all arguments of bulk at most 1048576 (no other condition). Here: The lattice's savings: place, at, low, high, insert. -/
import Derived.Test.YtcbahkfbdlhabaaGreatDoorK25
namespace Go.Proofs.YtcbahkfbdlhabaaGreatDoor
set_option linter.unusedVariables false
set_option linter.unusedSimpArgs false
open Go.RowKit
attribute [local go_sem] index24_0 index24_1 field34_0 field34_1
attribute [local irreducible] wpList Code.wp wpB

/-- Where a node lies. -/
def placeV (s : Sp) (x y : Int) : Int := placeN (topX s).a0 (topX s).a1 (x + y).toNat + x - spanF (topX s).a1 (x + y)
theorem placeN_col (e0 : Nat) (e1 : Nat) : ∀ h : Nat, h ≤ e0 + e1 + 2 → placeN (e0 : Int) ((e1 + 1 : Nat) : Int) h = placeN (e0 : Int) (e1 : Int) h + max 0 (min ((h : Int) - e1 - 1) (e0 + 1))
  | 0, _ => by simp only [placeN]; omega
  | h + 1, hh => by
    have ih := placeN_col e0 e1 h (by omega)
    simp only [placeN, spanT, spanF] at *
    rw [ih]
    omega
theorem placeN_all (e0 : Nat) : ∀ e1 : Nat, placeN (e0 : Int) (e1 : Int) (e0 + e1 + 1) = ((e0 : Int) + 1) * ((e1 : Int) + 1)
  | 0 => by
    have h : ∀ h : Nat, h ≤ e0 + 1 → placeN (e0 : Int) ((0 : Nat) : Int) h = h := by
      intro h
      induction h with
      | zero => intro _; rfl
      | succ h ih =>
        intro hh
        simp only [placeN, spanT, spanF]
        rw [ih (by omega)]
        omega
    have := h (e0 + 1) (by omega)
    rw [show e0 + 0 + 1 = e0 + 1 from rfl, this]
    push_cast
    omega
  | e1 + 1 => by
    have ih := placeN_all e0 e1
    have h := placeN_col e0 e1 (e0 + e1 + 2) (by omega)
    have h2 : placeN (e0 : Int) (e1 : Int) (e0 + e1 + 2) = placeN (e0 : Int) (e1 : Int) (e0 + e1 + 1) + (spanT e0 ((e0 + e1 + 1 : Nat) : Int) - spanF e1 ((e0 + e1 + 1 : Nat) : Int) + 1) := rfl
    simp only [spanT, spanF] at h2
    rw [show e0 + (e1 + 1) + 1 = e0 + e1 + 2 by omega, h, h2, ih]
    have : ((e0 : Int) + 1) * (((e1 + 1 : Nat) : Int) + 1) = ((e0 : Int) + 1) * ((e1 : Int) + 1) + (e0 + 1) := by
      push_cast
      rw [Int.mul_add, Int.mul_add]
      omega
    rw [this]
    omega
theorem placeN_mono {e0 e1 : Int} (b0 : 0 ≤ e0) (b1 : 0 ≤ e1) (m : Nat) : ∀ h : Nat, m ≤ h → (h : Int) ≤ e0 + e1 + 1 → placeN e0 e1 m ≤ placeN e0 e1 h
  | 0, h1, _ => by
    have : m = 0 := by omega
    subst this
    omega
  | h + 1, h1, h2 => by
    by_cases e : m = h + 1
    · subst e
      omega
    · have ih := placeN_mono b0 b1 m h (by omega) (by omega)
      simp only [placeN, spanT, spanF]
      omega
theorem placeV_bounds (s : Sp) {x y : Int} (hx : 0 ≤ x) (hx2 : x ≤ (topX s).a0) (hy : 0 ≤ y) (hy2 : y ≤ (topX s).a1) : 0 ≤ placeV s x y ∧ placeV s x y < ((topX s).a0 + 1) * ((topX s).a1 + 1) := by
  unfold placeV
  obtain ⟨⟨b0, c0⟩, b1, c1⟩ := top_bounds s
  generalize (topX s).a0 = e0 at *
  generalize (topX s).a1 = e1 at *
  obtain ⟨n0, rfl⟩ := Int.eq_ofNat_of_zero_le b0
  obtain ⟨n1, rfl⟩ := Int.eq_ofNat_of_zero_le b1
  obtain ⟨h, hh⟩ := Int.eq_ofNat_of_zero_le (show 0 ≤ x + y by omega)
  have hN : (x + y).toNat = h := by omega
  have h1 := placeN_all n0 n1
  have h2 := placeN_mono b0 b1 (h + 1) (n0 + n1 + 1) (by omega) (by omega)
  have h3 := (placeN_bounds b0 b1 c0 c1 h (by omega)).1
  rw [hN, hh, ← h1]
  simp only [placeN, spanT, spanF] at h2 ⊢
  omega
theorem place_gives (s : Sp) (hs : soundB s = true) {x y : Int} (hx : 0 ≤ x) (hx2 : x ≤ (topX s).a0) (hy : 0 ≤ y) (hy2 : y ≤ (topX s).a1) : Gives 202 #[s.v, .agg #[.int .i64 x, .int .i64 y]] (.int .i64 (placeV s x y)) := fun w => by
  obtain ⟨⟨b0, c0⟩, b1, c1⟩ := top_bounds s
  refine place_walk s.n s.d0.k s.d0.s s.d0.t s.d1.k s.d1.s s.d1.t x y (topX s).a0 (topX s).a1 (ends_gives s) b0 b1 c0 c1 (fun w => ?_) hx hy hx2 hy2 w
  have h := isNode_walk s.n s.d0.k s.d0.s s.d0.t s.d1.k s.d1.s s.d1.t x y (soundB s) (sound_gives s) (topX s).a0 (topX s).a1 (ends_gives s) w
  have e : (soundB s && (decide (x ≥ 0) && (decide (x ≤ (topX s).a0) && (decide (y ≥ 0) && decide (y ≤ (topX s).a1))))) = true := by simp [hs, hx, hx2, hy, hy2]
  rw [e] at h
  exact h
/-- A right prefix lies on a node. -/
theorem right_lev {s : Sp} {q : Px} (h : RB s q = true) : soundB s = true ∧ 0 ≤ q.a0 ∧ q.a0 ≤ (topX s).a0 ∧ 0 ≤ q.a1 ∧ q.a1 ≤ (topX s).a1 := by
  unfold RB rightB at h
  simp only [Bool.and_eq_true] at h
  obtain ⟨hs, h0, h1⟩ := h
  have hon : ∀ (d : Dm) (n : Int) (x : Ky), onB okL lenL d n x = true → 0 ≤ n ∧ n ≤ d.depth := fun d n x hx => by
    unfold onB at hx
    simp only [Bool.and_eq_true, Bool.not_eq_true', decide_eq_false_iff_not] at hx
    have h9 := hx.1.1.1
    unfold Dm.len lenI at h9
    by_cases hc : dimR d.k d.s d.t = false ∨ n < 0 ∨ depthI d.k d.s d.t < n
    · rw [if_pos hc] at h9
      omega
    · refine ⟨?_, ?_⟩
      · omega
      · show n ≤ depthI d.k d.s d.t
        omega
  refine ⟨hs, ?_⟩
  unfold topX
  rw [if_pos hs]
  have a := hon _ _ _ h0
  refine ⟨a.1, a.2, ?_⟩
  split at h1
  · simp only [Bool.and_eq_true, beq_iff_eq] at h1
    have := (top_bounds s).2.1
    unfold topX at this
    rw [if_pos hs] at this
    rw [h1.1]
    exact ⟨by omega, this⟩
  · exact hon _ _ _ h1

/-- The summaries' pointers. -/
def qrow (Ss : List Nat) : List Value := Ss.map fun S => .pointer (some ⟨S, 0, none⟩)
theorem qrow_get (Ss : List Nat) (js : List Value) (i : Nat) (hi : i < Ss.length) : rdv false 1 (qrow Ss ++ js) i = some (.pointer (some ⟨Ss[i], 0, none⟩)) := by
  show (qrow Ss ++ js)[i]? = _
  rw [List.getElem?_append_left (by simpa [qrow] using hi)]
  simp [qrow, hi]
/-- The block of a lattice's savings. -/
abbrev LB (K : Nat) (s : Sp) (g n cap : Nat) : En := ⟨K, .cells #[.int .i64 s.n, .int .i64 s.d0.k, .int .i64 s.d0.s, .int .i64 s.d0.t, .int .i64 s.d1.k, .int .i64 s.d1.s, .int .i64 s.d1.t, .slice (some ⟨g, 0, none⟩) n cap] 61 (0, 0), true⟩
abbrev QW (g : Nat) (Ss : List Nat) (js : List Value) : En := ⟨g, .cells (qrow Ss ++ js).toArray 63 (0, 0), true⟩
set_option maxRecDepth 100000 in
theorem run_idx59 {ρ : Operand → Value} {o : Oper} {x y : Operand} {g n cap p : Nat} {i : Int} (hop : o.op = .indexAddr 59 x y) (hx : ρ x = .slice (some ⟨g, 0, none⟩) n cap) (hy : ρ y = .int .i64 i) (hi : i = (p : Int)) (hp : p < n) (w : World) : (execOp ρ o).run Tryz.prog w = .ok (.value (.pointer (some ⟨g, p, none⟩))) w := by
  subst hi
  unfold execOp
  simp only [hop, hx, hy]
  have hq : (p : Int) < (n : Int) := by omega
  have hz : ¬ (p : Int) < 0 := by omega
  go_simp
  all_goals skip

set_option maxRecDepth 100000 in
set_option maxHeartbeats 4000000 in
theorem sat_walk (w : World) {K g n cap : Nat} {s : Sp} {Ss : List Nat} {js : List Value} (hL : w.heap[K]? = some (.cells #[.int .i64 s.n, .int .i64 s.d0.k, .int .i64 s.d0.s, .int .i64 s.d0.t, .int .i64 s.d1.k, .int .i64 s.d1.s, .int .i64 s.d1.t, .slice (some ⟨g, 0, none⟩) n cap] 61 (0, 0))) (hG : w.heap[g]? = some (.cells (qrow Ss ++ js).toArray 63 (0, 0))) (q : Px) (i : Nat) (hi : i < Ss.length) (hn : n = Ss.length) (hpl : placeV s q.a0 q.a1 = (i : Int)) (HPL : Gives 202 #[s.v, .agg #[.int .i64 q.a0, .int .i64 q.a1]] (.int .i64 (placeV s q.a0 q.a1))) : Calls Tryz.prog 200 #[.pointer (some ⟨K, 0, none⟩), q.v] w fun e w' => e = .returned (.pointer (some ⟨Ss[i], 0, none⟩)) ∧ Below w.heap.size w w' := by
  have hin : i < n := by omega
  have h2 : K ≠ g := by
    rintro rfl
    rw [hL] at hG
    have h9 := congrArg (fun o : Option Obj => match o with | some (.cells _ t _) => t | _ => 0) hG
    cases h9
  have HH : Hp w w [⟨K, .cells #[.int .i64 s.n, .int .i64 s.d0.k, .int .i64 s.d0.s, .int .i64 s.d0.t, .int .i64 s.d1.k, .int .i64 s.d1.s, .int .i64 s.d1.t, .slice (some ⟨g, 0, none⟩) n cap] 61 (0, 0), false⟩, ⟨g, .cells (qrow Ss ++ js).toArray 63 (0, 0), false⟩] := Hp.start ⟨hL, hG, trivial⟩ (by simp [h2]) rfl
  have hLL := Lib.hid hL
  have hGL := Lib.hid hG
  clear hL hG
  rw [hpl] at HPL
  have hpl2 : (i : Int) = (i : Int) := rfl
  go_enter Tryz.func200, Tryz.ntmps200
  go_wp2_with (first | ((with_reducible show zW (Op.box _ _)); refine wpl_box HH rfl rfl rfl ?_; clear HH; intro b V HH; simp only [Act.eval, zx, Value.cells, putl, zC, zB] at HH; (try simp only [Act.put, zz])) | ((with_reducible show Code.wp _ (Code.region _ _ true) _ _ _); (refine wp_tail_Hp (id := 1) [0, 1, 2, 3, 4, 5, 6, 7, 8, 9, 10, 11, 12, 13] [] (by kernel_rfl) HH ?_; clear HH; (try simp only [pick, zy]); repeat' (first | ((with_reducible show wpB _ _ _ _ [] _); refine wpB_nil ?_; intro V HH) | (((with_reducible show zU _); (first | ((with_reducible show zT (Op.move _)); refine wpB_move rfl rfl rfl ?_) | ((with_reducible show zT (Op.assign _)); refine wpB_assign rfl rfl rfl ?_) | ((with_reducible show zU (Op.indexAddr 59 _ _)); refine wpB_val rfl (fun V _ => run_idx59 (p := i) rfl rfl rfl rfl hin V) ?_) | ((with_reducible show zU (Op.load 63 _)); refine wpB_load 2 rfl rfl rfl rfl (qrow_get Ss _ i hi) ?_) | ((with_reducible show zT (Op.load _ _)); (first | refine wpB_load 0 rfl rfl rfl rfl rfl ?_ | refine wpB_load 1 rfl rfl rfl rfl rfl ?_)) | ((with_reducible show zT (Op.call _)); (refine wpB_callE (f := ?_) (args := ?_) (v := ?_) rfl ?_ ?_ ?_; rotate_left 3; (focus (intro w9 hS9; go_simp; (refine ⟨?_, ?_⟩ <;> with_reducible rfl))); (focus (with_reducible exact (HPL))))) | (refine wpB_val (v := ?_) rfl ?_ ?_; rotate_left; (focus (intro w9 hS9; go_simp; all_goals (with_reducible rfl)))))); all_goals (try simp only [Act.put, zz, Act.eval, zx]))))))
  go_ret
  exact ⟨rfl, Hp.back (l := [_]) (r := [_, _]) HH (by intro e he; simp only [List.mem_cons, List.not_mem_nil, or_false] at he; rcases he with rfl | rfl; exact hLL.out; exact hGL.out) rfl⟩

set_option maxRecDepth 100000 in
set_option maxHeartbeats 4000000 in
theorem vlow_walk {w0 w : World} {l : List En} {K g n cap : Nat} {s : Sp} {Ss : List Nat} {js : List Value} (HH : Hp w0 w (LB K s g n cap :: QW g Ss js :: l)) (q : Px) (i : Nat) (hi : i < Ss.length) (hn : n = Ss.length) (hpl : placeV s q.a0 q.a1 = (i : Int)) (HPL : Gives 202 #[s.v, .agg #[.int .i64 q.a0, .int .i64 q.a1]] (.int .i64 (placeV s q.a0 q.a1))) (lo : Nat) (HSL : ∀ V, Hp w0 V (LB K s g n cap :: QW g Ss js :: l) → Calls Tryz.prog 204 #[.pointer (some ⟨Ss[i], 0, none⟩), q.v] V fun e w' => e = .returned (.int .u64 (lo : Int)) ∧ Below V.heap.size V w') : Calls Tryz.prog 194 #[.pointer (some ⟨K, 0, none⟩), q.v] w fun e w' => e = .returned (.int .u64 (lo : Int)) ∧ Hp w0 w' (LB K s g n cap :: QW g Ss js :: l) := by
  go_enter Tryz.func194, Tryz.ntmps194
  go_wp2_with (first | ((with_reducible show zW (Op.box _ _)); refine wpl_box HH rfl rfl rfl ?_; clear HH; intro b V HH; simp only [Act.eval, zx, Value.cells, putl, zC, zB] at HH; (try simp only [Act.put, zz])) | ((with_reducible show Code.wp _ (Code.region _ _ true) _ _ _); (refine wp_tail_Hp (id := 1) [0, 1, 2, 3, 4, 5] [] (by kernel_rfl) HH ?_; clear HH; (try simp only [pick, zy]); repeat' (first | ((with_reducible show wpB _ _ _ _ [] _); refine wpB_nil ?_; intro V HH) | (((with_reducible show zU _); (first | ((with_reducible show zT (Op.move _)); refine wpB_move rfl rfl rfl ?_) | ((with_reducible show zT (Op.assign _)); refine wpB_assign rfl rfl rfl ?_) | ((with_reducible show zU (Op.call _)); refine wpB_callH (f := 200) (args := #[.pointer (some ⟨K, 0, none⟩), q.v]) (v := .pointer (some ⟨Ss[i], 0, none⟩)) rfl (fun V hV => sat_walk V (Hp.get hV 1 rfl) (Hp.get hV 2 rfl) q i hi hn hpl HPL) (fun w9 hS9 => ?_) ?_; (focus (go_simp; all_goals (fail)))) | ((with_reducible show zU (Op.call _)); refine wpB_callH (f := 204) (args := #[.pointer (some ⟨Ss[i], 0, none⟩), q.v]) (v := .int .u64 (lo : Int)) rfl (fun V hV => HSL V (hV.drop rfl)) (fun w9 hS9 => ?_) ?_; (focus (go_simp; all_goals (fail)))) | ((with_reducible show zT (Op.load _ _)); (refine wpB_load 0 rfl rfl rfl rfl rfl ?_)))); all_goals (try simp only [Act.put, zz, Act.eval, zx]))))))
  go_ret
  exact ⟨rfl, HH.drop rfl⟩

set_option maxRecDepth 100000 in
set_option maxHeartbeats 4000000 in
theorem vhigh_walk {w0 w : World} {l : List En} {K g n cap : Nat} {s : Sp} {Ss : List Nat} {js : List Value} (HH : Hp w0 w (LB K s g n cap :: QW g Ss js :: l)) (q : Px) (i : Nat) (hi : i < Ss.length) (hn : n = Ss.length) (hpl : placeV s q.a0 q.a1 = (i : Int)) (HPL : Gives 202 #[s.v, .agg #[.int .i64 q.a0, .int .i64 q.a1]] (.int .i64 (placeV s q.a0 q.a1))) (lo : Nat) (HSL : ∀ V, Hp w0 V (LB K s g n cap :: QW g Ss js :: l) → Calls Tryz.prog 201 #[.pointer (some ⟨Ss[i], 0, none⟩), q.v] V fun e w' => e = .returned (.int .u64 (lo : Int)) ∧ Below V.heap.size V w') : Calls Tryz.prog 192 #[.pointer (some ⟨K, 0, none⟩), q.v] w fun e w' => e = .returned (.int .u64 (lo : Int)) ∧ Hp w0 w' (LB K s g n cap :: QW g Ss js :: l) := by
  go_enter Tryz.func192, Tryz.ntmps192
  go_wp2_with (first | ((with_reducible show zW (Op.box _ _)); refine wpl_box HH rfl rfl rfl ?_; clear HH; intro b V HH; simp only [Act.eval, zx, Value.cells, putl, zC, zB] at HH; (try simp only [Act.put, zz])) | ((with_reducible show Code.wp _ (Code.region _ _ true) _ _ _); (refine wp_tail_Hp (id := 1) [0, 1, 2, 3, 4, 5] [] (by kernel_rfl) HH ?_; clear HH; (try simp only [pick, zy]); repeat' (first | ((with_reducible show wpB _ _ _ _ [] _); refine wpB_nil ?_; intro V HH) | (((with_reducible show zU _); (first | ((with_reducible show zT (Op.move _)); refine wpB_move rfl rfl rfl ?_) | ((with_reducible show zT (Op.assign _)); refine wpB_assign rfl rfl rfl ?_) | ((with_reducible show zU (Op.call _)); refine wpB_callH (f := 200) (args := #[.pointer (some ⟨K, 0, none⟩), q.v]) (v := .pointer (some ⟨Ss[i], 0, none⟩)) rfl (fun V hV => sat_walk V (Hp.get hV 1 rfl) (Hp.get hV 2 rfl) q i hi hn hpl HPL) (fun w9 hS9 => ?_) ?_; (focus (go_simp; all_goals (fail)))) | ((with_reducible show zU (Op.call _)); refine wpB_callH (f := 201) (args := #[.pointer (some ⟨Ss[i], 0, none⟩), q.v]) (v := .int .u64 (lo : Int)) rfl (fun V hV => HSL V (hV.drop rfl)) (fun w9 hS9 => ?_) ?_; (focus (go_simp; all_goals (fail)))) | ((with_reducible show zT (Op.load _ _)); (refine wpB_load 0 rfl rfl rfl rfl rfl ?_)))); all_goals (try simp only [Act.put, zz, Act.eval, zx]))))))
  go_ret
  exact ⟨rfl, HH.drop rfl⟩

set_option maxRecDepth 100000 in
set_option maxHeartbeats 4000000 in
theorem sins_over {w0 w : World} {l : List En} {S H bb bm c cb : Nat} {k : Int} {n sp : Nat} {hs : List It} {mm : List (Me Int)} {mb : List (Me Nat)} {v : Value} {r : List En} (HH : Hp w0 w (SB S H bb k n sp :: ⟨bb, mp encU mb cb, true⟩ :: HB H bm v :: ⟨bm, mp encI mm c, true⟩ :: (r ++ l))) (hnb : n ≤ 4611686018427387904) (q : Px) (wv : Nat) (hn : 4611686018427387904 < n + wv) : Calls Tryz.prog 203 #[.pointer (some ⟨S, 0, none⟩), q.v, .int .u64 (wv : Int)] w fun e w' => e = .returned (.int .i64 13) ∧ Hp w0 w' (SB S H bb k n sp :: ⟨bb, mp encU mb cb, true⟩ :: HB H bm v :: ⟨bm, mp encI mm c, true⟩ :: (r ++ l)) := by
  have w1 : IntKind.u64.wrap (4611686018427387904 - (n : Int)) = 4611686018427387904 - (n : Int) := IntWalk.u64_in _ (by omega)
  have ht : decide ((wv : Int) > 4611686018427387904 - (n : Int)) = true := decide_eq_true (by omega)
  go_enter Tryz.func203, Tryz.ntmps203
  go_wp2_with (first | (go_at_call 205; (refine (smade _ (HH.get 1 rfl)).mono ?_); rintro e V ⟨rfl, hb⟩; replace HH := HH.next hb; clear hb; (try simp only [Act.put, zz])) | ((with_reducible show zX (Op.load _ _)); (refine wpl_load HH 1 rfl rfl rfl rfl rfl ?_; (try simp only [Act.put, zz]))) | ((with_reducible show zX (Op.binOp _ _ _ _ _)); (refine wpl_cmp (p := ?_) rfl rfl rfl ?_ ?_ ?_; rotate_left; (focus (go_simp; with_reducible rfl)); all_goals (intro hq; (try (contradiction)); (try simp only [zw] at hq); (try simp only [Act.put, zz])))) | ((with_reducible show zW (Op.box _ _)); refine wpl_box HH rfl rfl rfl ?_; clear HH; intro b V HH; simp only [Act.eval, zx, Value.cells, putl, zC, zB] at HH; (try simp only [Act.put, zz])))
  go_ret
  exact ⟨rfl, HH.drop rfl⟩

/-- A summary, as plain data with its blocks. -/
structure Sm where
  S : Nat
  H : Nat
  bb : Nat
  bm : Nat
  sp : Nat
  c : Nat
  cb : Nat
  n : Nat
  hs : List It
  mm : List (Me Int)
  mb : List (Me Nat)
  v : Value
  r : List En
def Sm.es (k : Int) (x : Sm) : List En := SB x.S x.H x.bb k x.n x.sp :: ⟨x.bb, mp encU x.mb x.cb, true⟩ :: HB x.H x.bm x.v :: ⟨x.bm, mp encI x.mm x.c, true⟩ :: x.r
structure Sm.Ok (k : Int) (F : Px → Nat) (x : Sm) : Prop where
  p : SmP k x.n x.sp x.hs x.mb F
  i : HI x.hs x.mm x.c
  b : MOk x.mb x.cb
  s : SlR 250 13 true x.v x.hs.length (hrow x.hs) x.r
theorem Sm.own {k : Int} {F : Px → Nat} {x : Sm} (h : x.Ok k F) : ∀ e ∈ x.es k, e.own = true := by
  intro e he
  unfold Sm.es at he
  simp only [List.mem_cons] at he
  rcases he with rfl | rfl | rfl | rfl | he
  · rfl
  · rfl
  · rfl
  · rfl
  · exact h.s.own e he
theorem SmR.sm {w0 : World} {k : Int} {n : Nat} {F : Px → Nat} {S : Nat} {l : List En} {w' : World} (h : SmR w0 k n F S l w') : ∃ x : Sm, x.S = S ∧ x.Ok k F ∧ Hp w0 w' (x.es k ++ l) := by
  obtain ⟨H, bb, bm, sp, c, cb, hs, mm, mb, v, r, h1, h2, h3, h4, h5⟩ := h
  exact ⟨⟨S, H, bb, bm, sp, c, cb, n, hs, mm, mb, v, r⟩, rfl, ⟨h1, h2, h3, h4⟩, h5⟩
theorem cons_erase_perm {α : Type} (xs : List α) (i : Nat) (hi : i < xs.length) : (xs[i] :: xs.eraseIdx i).Perm xs := by
  have h1 : xs = xs.take i ++ xs[i] :: xs.drop (i + 1) := by rw [← List.drop_eq_getElem_cons hi, List.take_append_drop]
  have h2 : xs.eraseIdx i = xs.take i ++ xs.drop (i + 1) := List.eraseIdx_eq_take_drop_succ ..
  rw [h2]
  refine List.perm_middle.symm.trans ?_
  rw [← h1]
theorem flat_pull {α β : Type} (f : α → List β) (xs : List α) (i : Nat) (hi : i < xs.length) (P l : List β) : (P ++ (xs.flatMap f ++ l)).Perm (f xs[i] ++ (P ++ ((xs.eraseIdx i).flatMap f ++ l))) := by
  have h1 : (xs.flatMap f).Perm (f xs[i] ++ (xs.eraseIdx i).flatMap f) := (List.Perm.flatMap_right f (cons_erase_perm xs i hi)).symm
  refine (List.Perm.append_left P (List.Perm.append_right l h1)).trans ?_
  rw [List.append_assoc]
  exact List.perm_append_comm_assoc _ _ _
theorem Hp.pull {w0 W : World} {α : Type} {f : α → List En} {xs : List α} {P l : List En} (h : Hp w0 W (P ++ (xs.flatMap f ++ l))) (i : Nat) (hi : i < xs.length) : Hp w0 W (f xs[i] ++ (P ++ ((xs.eraseIdx i).flatMap f ++ l))) := h.perm (flat_pull f xs i hi P l)
theorem Hp.push {w0 W : World} {α : Type} {f : α → List En} {xs : List α} {P l : List En} {x : α} {i : Nat} (hi : i < xs.length) (h : Hp w0 W (f x ++ (P ++ ((xs.eraseIdx i).flatMap f ++ l)))) : Hp w0 W (P ++ ((xs.set i x).flatMap f ++ l)) := by
  refine h.perm ?_
  have h1 := (flat_pull f (xs.set i x) i (by simpa using hi) P l).symm
  rw [List.getElem_set_self, List.eraseIdx_set_eq] at h1
  exact h1
/-- What a lattice of savings holds: G is what went in for each prefix. -/
def latF (s : Sp) (G : Px → Nat) (i : Nat) (q : Px) : Nat := if placeV s q.a0 q.a1 = (i : Int) then G q else 0
def VS (k : Int) (s : Sp) (G : Px → Nat) (xs : List Sm) : Prop := ∀ (i : Nat) (hi : i < xs.length), (xs[i]).Ok k (latF s G i)
theorem VS.add {k : Int} {s : Sp} {G : Px → Nat} {xs : List Sm} (h : VS k s G xs) {q : Px} {wv i : Nat} (hi : i < xs.length) (hpl : placeV s q.a0 q.a1 = (i : Int)) {x : Sm} (hx : x.Ok k (fAdd (latF s G i) q wv)) : VS k s (fAdd G q wv) (xs.set i x) := by
  intro j hj
  rw [List.length_set] at hj
  by_cases e : j = i
  · subst e
    rw [List.getElem_set_self]
    have e2 : fAdd (latF s G j) q wv = latF s (fAdd G q wv) j := by
      funext p
      unfold fAdd latF
      by_cases h1 : placeV s p.a0 p.a1 = (j : Int)
      · rw [if_pos h1, if_pos h1]
      · rw [if_neg h1, if_neg h1, if_neg (fun e => h1 (by rw [e]; exact hpl))]
    rwa [e2] at hx
  · rw [List.getElem_set_ne (by omega)]
    have e2 : latF s (fAdd G q wv) j = latF s G j := by
      funext p
      unfold fAdd latF
      by_cases h1 : placeV s p.a0 p.a1 = (j : Int)
      · rw [if_pos h1, if_pos h1]
        show (G p + if p = q then wv else 0) = G p
        rw [if_neg]
        · rfl
        · intro e3
          rw [e3, hpl] at h1
          omega
      · rw [if_neg h1, if_neg h1]
    rw [e2]
    exact h j hj

theorem Hp.pull5 {w0 W : World} {α : Type} {f : α → List En} {xs : List α} {a b c d e : En} {l : List En} (h : Hp w0 W (a :: b :: c :: d :: e :: (xs.flatMap f ++ l))) (i : Nat) (hi : i < xs.length) : Hp w0 W (f xs[i] ++ (a :: b :: c :: d :: e :: ((xs.eraseIdx i).flatMap f ++ l))) := Hp.pull (P := [a, b, c, d, e]) h i hi
theorem Hp.push5 {w0 W : World} {α : Type} {f : α → List En} {xs : List α} {a b c d e : En} {l : List En} {x : α} {i : Nat} (hi : i < xs.length) (h : Hp w0 W (f x ++ (a :: b :: c :: d :: e :: ((xs.eraseIdx i).flatMap f ++ l)))) : Hp w0 W (a :: b :: c :: d :: e :: ((xs.set i x).flatMap f ++ l)) := Hp.push (P := [a, b, c, d, e]) hi h
/-- What a summary's insertion yields. -/
def SmI (w0 : World) (k : Int) (F : Px → Nat) (S : Nat) (q : Px) (wv : Nat) (l : List En) (v : Value) (w' : World) : Prop := ∃ x' : Sm, x'.S = S ∧ Hp w0 w' (x'.es k ++ l) ∧ ((v = .int .i64 0 ∧ x'.Ok k (fAdd F q wv)) ∨ (v = .int .i64 13 ∧ x'.Ok k F))
theorem sm_ins {w0 w : World} {l : List En} {k : Int} {F : Px → Nat} {x : Sm} (HH : Hp w0 w (x.es k ++ l)) (h : x.Ok k F) (hk1 : 1 ≤ k) (hk : k ≤ 200) (q : Px) (wv : Nat) (S : Nat) (hS : x.S = S) : Calls Tryz.prog 203 #[.pointer (some ⟨S, 0, none⟩), q.v, .int .u64 (wv : Int)] w fun e w' => ∃ v, e = .returned v ∧ SmI w0 k F S q wv l v w' := by
  subst hS
  by_cases hn : x.n + wv ≤ 4611686018427387904
  · refine (sins_walk (l := l) HH h.p h.i h.b h.s hk1 hk q wv hn).mono ?_
    rintro e w' ⟨he, hr⟩
    obtain ⟨x', h1, h2, h3⟩ := hr.sm
    exact ⟨_, he, x', h1, h3, .inl ⟨rfl, h2⟩⟩
  · refine (sins_over (l := l) (hs := x.hs) HH h.p.nb q wv (by omega)).mono ?_
    rintro e w' ⟨he, hr⟩
    exact ⟨_, he, x, rfl, hr, .inr ⟨rfl, h⟩⟩
/-- What goes in for a prefix' all. -/
def allAdd (G : Px → Nat) (A : List Px) (wv : Nat) : Px → Nat := A.foldl (fun G q => fAdd G q wv) G
theorem allAdd_snoc (G : Px → Nat) (A : List Px) (q : Px) (wv : Nat) : allAdd G (A ++ [q]) wv = fAdd (allAdd G A wv) q wv := by
  unfold allAdd
  rw [List.foldl_append]
  rfl
/-- What an insertion into the savings yields. -/
def VIns (w0 : World) (K : Nat) (s : Sp) (g n cap : Nat) (k : Int) (js : List Value) (l : List En) (G : Px → Nat) (A : List Px) (wv : Nat) (Ss : List Nat) (v : Value) (w' : World) : Prop := ∃ (G' : Px → Nat) (xs' : List Sm), VS k s G' xs' ∧ xs'.map Sm.S = Ss ∧ Hp w0 w' (LB K s g n cap :: QW g Ss js :: (xs'.flatMap (Sm.es k) ++ l)) ∧ ((v = .int .i64 0 ∧ G' = allAdd G A wv) ∨ v = .int .i64 13)

set_option maxRecDepth 100000 in
set_option maxHeartbeats 4000000 in
theorem vins_walk {w0 w : World} {l : List En} {K g n cap : Nat} {s : Sp} {k : Int} {G : Px → Nat} {xs : List Sm} {Ss : List Nat} {js : List Value} (HH : Hp w0 w (LB K s g n cap :: QW g Ss js :: (xs.flatMap (Sm.es k) ++ l))) (hV : VS k s G xs) (hS : xs.map Sm.S = Ss) (hn : n = Ss.length) (hs : soundB s = true) (hcount : (Ss.length : Int) = ((topX s).a0 + 1) * ((topX s).a1 + 1)) (hk1 : 1 ≤ k) (hk : k ≤ 200) (p : Px) (hp : p.ok) (hpos : 1 ≤ (allP s p).length) (hA : ∀ q ∈ allP s p, 0 ≤ q.a0 ∧ q.a0 ≤ (topX s).a0 ∧ 0 ≤ q.a1 ∧ q.a1 ≤ (topX s).a1) (wv : Nat) :
    Calls Tryz.prog 193 #[.pointer (some ⟨K, 0, none⟩), p.v, .int .u64 (wv : Int)] w fun e w' => ∃ v, e = .returned v ∧ VIns w0 K s g n cap k js l G (allP s p) wv Ss v w' := by
  subst hn
  have HALL := allP_gives s p hp
  have hA2 := allP_le s p
  generalize allP s p = A at *
  have HVS := Lib.hid hV
  have HSS := Lib.hid hS
  have HCT := Lib.hid hcount
  have HAA := Lib.hid hA
  clear hV hS hcount hA
  go_enter Tryz.func193, Tryz.ntmps193
  go_wp2_with (first | (go_at_call 148; (with_reducible refine (HALL _).mono ?_); rintro e V ⟨v, r, rfl, HS, hh⟩; obtain ⟨g2, cap2, js2, rfl, rfl, hc2, hc3, hc4⟩ := HS.some (by omega); replace HH := HH.join hh (by simp); clear hh; (try simp only [List.cons_append, List.nil_append] at HH); (try simp only [Act.put, zz])) | ((with_reducible show stepQ _ _ _ _ _ _ _); refine stepQ_on HH (by (exact fun V h => h.drop rfl)) ?_; clear HH) | ((with_reducible show wpS _ _ _ _ (_ :: _) _ _); refine wpS_step rfl (fun V HH => ?_)) | ((with_reducible show wpS _ _ _ _ _ _ _); refine wpS_nil ?_; intro V HH) | ((with_reducible show zW (Op.box _ _)); refine wpl_box HH rfl rfl rfl ?_; clear HH; intro b V HH; simp only [Act.eval, zx, Value.cells, putl, zC, zB] at HH; (try simp only [Act.put, zz])) | ((with_reducible show Code.wp _ (Code.region _ _ true) _ _ _); (refine wp_float_Hp (id := 1) [0, 1, 2, 3, 4, 7] [5, 6] [] _ (by kernel_rfl) HH (by (exact fun V h => h)) ?_; clear HH; (try simp only [pick, zy]); repeat' (first | ((with_reducible show wpB _ _ _ _ [] _); refine wpB_nil ?_) | (((with_reducible show zU _); (first | ((with_reducible show zT (Op.move _)); refine wpB_move rfl rfl rfl ?_) | ((with_reducible show zT (Op.load _ _)); (first | refine wpB_load 0 rfl rfl rfl rfl rfl ?_ | refine wpB_load 1 rfl rfl rfl rfl rfl ?_)) | (refine wpB_val (v := ?_) rfl ?_ ?_; rotate_left; (focus (intro w9 hS9; go_simp; all_goals (with_reducible rfl)))))); all_goals (try simp only [Act.put, zz, Act.eval, zx]))))))
  go_loopw [17] (fun i wr => ∃ (j : Nat) (xs1 : List Sm), j ≤ A.length ∧ i = .int .i64 j ∧ VS k s (allAdd G (A.take j) wv) xs1 ∧ xs1.map Sm.S = Ss ∧ Hp w0 wr ((Hp.lst HH).take 4 ++ (xs1.flatMap (Sm.es k) ++ l))) (fun i _ => ((A.length : Int) - intOf i).toNat)
  case atStart => exact ⟨0, xs, by omega, rfl, HVS.out, HSS.out, HH⟩
  case round =>
    obtain ⟨j, xs1, hj0, rfl, hV9, hS9, HR2⟩ := hrel
    dsimp only [Hp.lst, List.take] at HR2
    have HH : Hp w0 wr (_ :: _ :: _ :: _ :: (xs1.flatMap (Sm.es k) ++ l)) := HR2
    clear HR2
    have hV1 := Lib.hid hV9
    have hS1 := Lib.hid hS9
    have hxl : xs1.length = Ss.length := by rw [← hS9, List.length_map]
    clear hV9 hS9
    by_cases hj : j < A.length
    · have hj2 : (j : Int) < (A.length : Int) := by omega
      obtain ⟨b0, b1, b2, b3⟩ := HAA.out A[j] (List.getElem_mem hj)
      have hpb := placeV_bounds s b0 b1 b2 b3
      have HPL := place_gives s hs b0 b1 b2 b3
      rw [← HCT.out] at hpb
      obtain ⟨i, hpl⟩ : ∃ i : Nat, placeV s A[j].a0 A[j].a1 = (i : Int) := ⟨(placeV s A[j].a0 A[j].a1).toNat, by omega⟩
      have hpl' := Lib.hid hpl
      rw [hpl] at HPL hpb
      clear hpl
      have hi : i < Ss.length := by omega
      have hi1 : i < xs1.length := by omega
      have hin : i < Ss.length := hi
      have hok0 := hV1.out i hi1
      have hSi : (xs1[i]).S = Ss[i] := by
        have := hS1.out
        subst this
        simp
      have hts : A.take (j + 1) = A.take j ++ [A[j]] := List.take_succ_eq_append_getElem hj
      go_wp2_with (first | ((with_reducible show zW (Op.indexAddr 173 _ _)); refine wpl_valu rfl (run_idx173 (p := j) rfl rfl rfl (by omega) _) ?_; (try simp only [Act.put, zz])) | ((with_reducible show zW (Op.load 34 _)); (refine wpl_load HH 0 rfl rfl rfl rfl (prow_get A j _ hj) ?_); (try simp only [Act.put, zz])) | (go_at_call 203; have H9 := HH.pull5 i hi1; (with_reducible refine (sm_ins H9 hok0 hk1 hk A[j] wv _ hSi).mono ?_); clear H9; rintro e9 V ⟨v9, rfl, x9, hx9, HH2, hres⟩; clear HH; have HH := HH2.push5 hi1; clear HH2; rcases hres with ⟨rfl, hok⟩ | ⟨rfl, hok⟩; all_goals (try simp only [Act.put, zz])) | ((with_reducible show zX (Op.binOp _ _ _ _ _)); (refine wpl_cmp (p := ?_) rfl rfl rfl ?_ ?_ ?_; rotate_left; (focus (go_simp; with_reducible rfl)); all_goals (intro hq; (try (contradiction)); (try simp only [zw] at hq); (try simp only [Act.put, zz])))) | ((with_reducible show zW (Op.store _ _ _)); (refine wpl_store HH 0 rfl rfl rfl rfl rfl rfl rfl rfl ?_; clear HH; intro V HH; simp only [Act.eval, zx, Value.cells, putl, zC, zB] at HH; (try simp only [Act.put, zz]))) | ((with_reducible show zW (Op.alloc _)); refine wpl_alloc HH rfl rfl ?_; clear HH; intro b V HH; simp only [Act.eval, zx, Value.cells, putl, zC, zB] at HH; (try simp only [Act.put, zz])) | ((with_reducible show Code.wp _ (Code.region _ _ true) _ _ _); (refine wp_tail_Hp (id := 4) [0, 1, 2, 3, 4, 5, 6, 7, 8, 9, 10, 11, 12, 13, 14] [15, 16] (by kernel_rfl) HH ?_; clear HH; (try simp only [pick, zy]); repeat' (first | ((with_reducible show wpB _ _ _ _ [] _); refine wpB_nil ?_; intro V HH) | (((with_reducible show zU _); (first | ((with_reducible show zT (Op.move _)); refine wpB_move rfl rfl rfl ?_) | ((with_reducible show zU (Op.indexAddr 59 _ _)); refine wpB_val rfl (fun V _ => run_idx59 (p := i) rfl rfl rfl rfl hin V) ?_) | ((with_reducible show zU (Op.load 63 _)); refine wpB_load 4 rfl rfl rfl rfl (qrow_get Ss _ i hi) ?_) | ((with_reducible show zT (Op.load _ _)); (first | refine wpB_load 0 rfl rfl rfl rfl rfl ?_ | refine wpB_load 3 rfl rfl rfl rfl rfl ?_)) | ((with_reducible show zT (Op.call _)); (refine wpB_callE (f := ?_) (args := ?_) (v := ?_) rfl ?_ ?_ ?_; rotate_left 3; (focus (intro w9 hS9; go_simp; (refine ⟨?_, ?_⟩ <;> with_reducible rfl))); (focus (with_reducible exact (HPL))))) | (refine wpB_val (v := ?_) rfl ?_ ?_; rotate_left; (focus (intro w9 hS9; go_simp; all_goals (with_reducible rfl)))))); all_goals (try simp only [Act.put, zz, Act.eval, zx]))))))
      · refine ⟨⟨j + 1, xs1.set i x9, by omega, by push_cast; rfl, ?_, ?_, HH.drop rfl⟩, by simp [intOf]; omega⟩
        · rw [hts, allAdd_snoc]
          exact hV1.out.add hi1 hpl'.out hok
        · rw [List.map_set, hS1.out, hx9]
          exact List.set_getElem_self ..
      · go_ret
        refine ⟨_, rfl, allAdd G (A.take j) wv, xs1.set i x9, ?_, ?_, ((HH.drop rfl).drop rfl).drop rfl, .inr rfl⟩
        · intro m hm
          by_cases e : m = i
          · subst e
            rw [List.getElem_set_self]
            exact hok
          · rw [List.getElem_set_ne (by omega)]
            exact hV1.out m (by simpa using hm)
        · rw [List.map_set, hS1.out, hx9]
          exact List.set_getElem_self ..
    · have hj2 : ¬ (j : Int) < (A.length : Int) := by omega
      go_wp2_with ((with_reducible show zX (Op.binOp _ _ _ _ _)); (refine wpl_cmp (p := ?_) rfl rfl rfl ?_ ?_ ?_; rotate_left; (focus (go_simp; with_reducible rfl)); all_goals (intro hq; (try (contradiction)); (try simp only [zw] at hq); (try simp only [Act.put, zz]))))
      have hjl : A.take j = A := List.take_of_length_le (by omega)
      go_ret
      rw [hjl] at hV1
      exact ⟨_, rfl, _, xs1, hV1.out, hS1.out, (HH.drop rfl).drop rfl, .inl ⟨rfl, rfl⟩⟩

end Go.Proofs.YtcbahkfbdlhabaaGreatDoor
