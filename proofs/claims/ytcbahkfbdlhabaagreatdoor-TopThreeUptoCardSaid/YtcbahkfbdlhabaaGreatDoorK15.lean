/- A part of the proof that the law TopThree returns true for all arguments of bulk at most 1048576 (no other condition). Here: trie.Insert. The document's Of of no letters at all. -/
import Derived.Test.YtcbahkfbdlhabaaGreatDoorK14
import Derived.Test.YtcbahkfbdlhabaaGreatDoorK10
namespace Go.Proofs.YtcbahkfbdlhabaaGreatDoor
set_option linter.unusedVariables false
set_option linter.unusedSimpArgs false
open Go.RowKit
attribute [local go_sem] index24_0 index24_1 field34_0 field34_1
attribute [local irreducible] wpList Code.wp wpB

/-- New nodes. -/
def addAll (sl : Nat) (m : List (Me (Nat × Nat))) (c : Nat) (L : List Px) : List (Me (Nat × Nat)) × Nat := L.foldl (fun a q => (mputL a.1 a.2 q (0, sl), mputC a.1 a.2 q)) (m, c)
theorem addAll_snoc (sl : Nat) (m : List (Me (Nat × Nat))) (c : Nat) (L : List Px) (q : Px) : addAll sl m c (L ++ [q]) = (mputL (addAll sl m c L).1 (addAll sl m c L).2 q (0, sl), mputC (addAll sl m c L).1 (addAll sl m c L).2 q) := by
  unfold addAll
  rw [List.foldl_append]
  rfl
theorem addAll_ok (sl : Nat) : ∀ (L : List Px) (m : List (Me (Nat × Nat))) (c : Nat), MOk m c → MOk (addAll sl m c L).1 (addAll sl m c L).2
  | [], m, c, h => h
  | q :: r, m, c, h => addAll_ok sl r _ _ (h.put q (0, sl))
/-- The nodes behind an insertion. -/
def insM (s : Sp) (full : Bool) (sl : Nat) (mm : List (Me (Nat × Nat))) (c : Nat) (p : Px) (wv : Nat) : List (Me (Nat × Nat)) × Nat :=
  let a := addAll sl mm c (missD s full mm p)
  let u := (mget a.1 p).getD (0, 0)
  (mputL a.1 a.2 p (u.1 + wv, u.2), mputC a.1 a.2 p)
theorem insM_ok (s : Sp) (full : Bool) (sl : Nat) (mm : List (Me (Nat × Nat))) (c : Nat) (p : Px) (wv : Nat) (h : MOk mm c) : MOk (insM s full sl mm c p wv).1 (insM s full sl mm c p wv).2 :=
  (addAll_ok sl _ _ _ h).put p _

set_option maxRecDepth 100000 in
set_option maxHeartbeats 4000000 in
theorem ins_zero {w0 w : World} {l : List En} {T n sl bm c : Nat} {s : Sp} {full : Bool} {mm : List (Me (Nat × Nat))} (HH : Hp w0 w (TE T s full n sl bm :: ⟨bm, mp encG mm c, true⟩ :: l)) (p : Px) (hp : p.ok) (hlf : leafB s p = true) (hn : n ≤ 4611686018427387904) : Calls Tryz.prog 126 #[.pointer (some ⟨T, 0, none⟩), p.v, .int .u64 ((0 : Nat) : Int)] w fun e w' => e = .returned (.int .i64 0) ∧ Hp w0 w' (TE T s full n sl bm :: ⟨bm, mp encG mm c, true⟩ :: l) := by
  have HR := rb_gives s p hp
  unfold leafB at hlf
  obtain ⟨r, hr⟩ : ∃ r, r + n = 4611686018427387904 := ⟨_, Nat.sub_add_cancel hn⟩
  have w1 : IntKind.u64.wrap (4611686018427387904 - (n : Int)) = (r : Int) := by rw [IntWalk.u64_in _ (by omega)]; omega
  go_enter Tryz.func126, Tryz.ntmps126
  go_wp2_with (first | (go_at_call 129; (refine (tmade _ (HH.get 1 rfl)).mono ?_); rintro e V ⟨rfl, hb⟩; replace HH := HH.next hb; clear hb) | (go_at_call 130; (refine (isLeaf_walk _ (HH.get 1 rfl) p HR).mono ?_); rw [hlf]; rintro e V ⟨rfl, hb⟩; replace HH := HH.next hb; clear hb) | ((with_reducible show zX (Op.load _ _)); (first | (refine wpl_load HH 0 rfl rfl rfl rfl rfl ?_; (try simp only [Act.put, zz])) | (refine wpl_load HH 1 rfl rfl rfl rfl rfl ?_; (try simp only [Act.put, zz])))) | ((with_reducible show zX (Op.binOp _ _ _ _ _)); (refine wpl_cmp (p := ?_) rfl rfl rfl ?_ ?_ ?_; rotate_left; (focus (go_simp; with_reducible rfl)); all_goals (intro hq; (try (contradiction)); (try simp only [zw] at hq); (try simp only [Act.put, zz])))) | ((with_reducible show zW (Op.box _ _)); refine wpl_box HH rfl rfl rfl ?_; clear HH; intro b V HH; simp only [Act.eval, zx, Value.cells, putl, zC, zB] at HH; (try simp only [Act.put, zz])))
  all_goals (try (exfalso; omega))
  all_goals (go_ret; exact ⟨rfl, HH.drop rfl⟩)

theorem addAll_get (sl : Nat) (q : Px) : ∀ (L : List Px) (m : List (Me (Nat × Nat))) (c : Nat), mget (addAll sl m c L).1 q = if q ∈ L then some (0, sl) else mget m q
  | [], m, c => by simp [addAll]
  | x :: r, m, c => by
    show mget (addAll sl (mputL m c x (0, sl)) (mputC m c x) r).1 q = _
    rw [addAll_get sl q r, mget_put]
    by_cases h : q ∈ r
    · rw [if_pos h, if_pos (List.mem_cons_of_mem _ h)]
    · rw [if_neg h]
      by_cases h2 : q = x
      · rw [if_pos h2, if_pos (by rw [h2]; exact List.mem_cons_self)]
      · rw [if_neg h2, if_neg (by rw [List.mem_cons]; rintro (h3 | h3); exact h2 h3; exact h h3)]

set_option maxRecDepth 100000 in
set_option maxHeartbeats 4000000 in
theorem ins_go {w0 w : World} {l : List En} {T n sl bm c : Nat} {s : Sp} {full : Bool} {mm : List (Me (Nat × Nat))} (HH : Hp w0 w (TE T s full n sl bm :: ⟨bm, mp encG mm c, true⟩ :: l)) (hc : MOk mm c) (p : Px) (hp : p.ok) (wv : Nat) (hlf : leafB s p = true) (hn : n + wv ≤ 4611686018427387904) (hw : 0 < wv) (hg : ∀ x ∈ mm, x.v.1 ≤ n) : Calls Tryz.prog 126 #[.pointer (some ⟨T, 0, none⟩), p.v, .int .u64 (wv : Int)] w fun e w' => e = .returned (.int .i64 0) ∧ Hp w0 w' (TE T s full (n + wv) sl bm :: ⟨bm, mp encG (insM s full sl mm c p wv).1 (insM s full sl mm c p wv).2, true⟩ :: l) := by
  have HR := rb_gives s p hp
  have hal : (allP s p).length ≤ 100000 := Nat.le_trans (allP_le s p) (by omega)
  unfold leafB at hlf
  obtain ⟨r, hr⟩ : ∃ r, r + n = 4611686018427387904 := ⟨_, Nat.sub_add_cancel (by omega)⟩
  have w1 : IntKind.u64.wrap (4611686018427387904 - (n : Int)) = (r : Int) := by rw [IntWalk.u64_in _ (by omega)]; omega
  have w2 : IntKind.u64.wrap ((n : Int) + (wv : Int)) = ((n + wv : Nat) : Int) := by rw [IntWalk.u64_in _ (by omega)]; push_cast; rfl
  have hmm2 : ∀ u, mget (addAll sl mm c (missD s full mm p)).1 p = some u → u.1 + wv ≤ 4611686018427387904 := fun u hu => by
    rw [addAll_get] at hu
    split at hu
    · cases hu
      show 0 + wv ≤ _
      omega
    · obtain ⟨x, hx, _, rfl⟩ := mem_of_mget hu
      have := hg x hx
      omega
  have hML : (missL full mm p (allP s p)).length ≤ 100000 := Nat.le_trans (missL_le _ _ _ _) hal
  unfold insM
  change ∀ u, mget (addAll sl mm c (missL full mm p (allP s p))).1 p = some u → _ at hmm2
  change Calls _ _ _ _ (fun e w' => e = .returned (.int .i64 0) ∧ Hp w0 w' (TE T s full (n + wv) sl bm :: ⟨bm, mp encG (mputL (addAll sl mm c (missL full mm p (allP s p))).1 (addAll sl mm c (missL full mm p (allP s p))).2 p (((mget (addAll sl mm c (missL full mm p (allP s p))).1 p).getD (0, 0)).1 + wv, ((mget (addAll sl mm c (missL full mm p (allP s p))).1 p).getD (0, 0)).2)) (mputC (addAll sl mm c (missL full mm p (allP s p))).1 (addAll sl mm c (missL full mm p (allP s p))).2 p), true⟩ :: l))
  have HMISS := fun w0 w l hH => miss_walk s p full n sl bm T c mm _ hal (allP_gives s p hp) (w0 := w0) (w := w) (l := l) hH
  generalize missL full mm p (allP s p) = L at *
  go_enter Tryz.func126, Tryz.ntmps126
  go_wp2_with (first | (go_at_call 129; (refine (tmade _ (HH.get 1 rfl)).mono ?_); rintro e V ⟨rfl, hb⟩; replace HH := HH.next hb; clear hb) | (go_at_call 130; (refine (isLeaf_walk _ (HH.get 1 rfl) p HR).mono ?_); rw [hlf]; rintro e V ⟨rfl, hb⟩; replace HH := HH.next hb; clear hb) | (go_at_call 131; refine (HMISS _ _ _ (HH.perm (List.perm_append_comm_assoc [_] [_, _] _))).mono ?_; rintro e V ⟨v, rm, rfl, HS, HH2⟩; clear HH; have HH := HH2; clear HH2; obtain ⟨a9, c9, rfl⟩ := HS.form; (try simp only [Act.put, zz])) | ((with_reducible show zX (Op.load _ _)); (first | (refine wpl_load HH 0 rfl rfl rfl rfl rfl ?_; (try simp only [Act.put, zz])) | (refine wpl_load HH 1 rfl rfl rfl rfl rfl ?_; (try simp only [Act.put, zz])))) | ((with_reducible show zX (Op.binOp _ _ _ _ _)); (refine wpl_cmp (p := ?_) rfl rfl rfl ?_ ?_ ?_; rotate_left; (focus (go_simp; with_reducible rfl)); all_goals (intro hq; (try (fail)); (try simp only [zw] at hq); (try simp only [Act.put, zz])))) | ((with_reducible show zW (Op.box _ _)); refine wpl_box HH rfl rfl rfl ?_; clear HH; intro b V HH; simp only [Act.eval, zx, Value.cells, putl, zC, zB] at HH; (try simp only [Act.put, zz])))
  all_goals (try (exfalso; omega))
  all_goals (try (exfalso; simp at hq; omega))
  rcases HS.2 with ⟨h1, h2, h3⟩ | ⟨g, cap, js, h1, h3, h4⟩
  · obtain rfl : L = [] := List.length_eq_zero_iff.1 h2
    cases h1
    subst h3
    simp only [List.append_eq, List.nil_append, List.cons_append] at HH
    go_loopw [34] (fun i wr => i = .int .i64 0 ∧ Hp w0 wr (Hp.lst HH)) (fun _ _ => 0)
    case atStart => exact ⟨rfl, HH⟩
    case round =>
      obtain ⟨rfl, HR2⟩ := hrel
      dsimp only [Hp.lst] at HR2
      have HH := HR2
      clear HR2
      simp only [addAll, List.foldl_nil] at hmm2 ⊢
      cases hgx : mget mm p with
      | none =>
        go_wp2_with (first | ((with_reducible show zW (Op.mapUpdate 90 _ _ _)); (refine wpl_put (enc := encG) HH 2 p (wv, 0) rfl rfl rfl rfl rfl rfl ?_); clear HH; intro V HH; (try simp only [zC, zB] at HH); (try simp only [Act.put, zz])) | ((with_reducible show zX (Op.load _ _)); (first | (refine wpl_load HH 0 rfl rfl rfl rfl rfl ?_; (try simp only [Act.put, zz])) | (refine wpl_load HH 1 rfl rfl rfl rfl rfl ?_; (try simp only [Act.put, zz])))) | ((with_reducible show zX (Op.binOp _ _ _ _ _)); (refine wpl_cmp (p := ?_) rfl rfl rfl ?_ ?_ ?_; rotate_left; (focus (go_simp; with_reducible rfl)); all_goals (intro hq; (try (contradiction)); (try simp only [zw] at hq); (try simp only [Act.put, zz])))) | ((with_reducible show zW (Op.store _ _ _)); (first | (refine wpl_store HH 0 rfl rfl rfl rfl rfl rfl rfl rfl ?_; clear HH; intro V HH; simp only [Act.eval, zx, Value.cells, putl, zC, zB] at HH; (try simp only [Act.put, zz])) | (refine wpl_store HH 1 rfl rfl rfl rfl rfl rfl rfl rfl ?_; clear HH; intro V HH; simp only [Act.eval, zx, Value.cells, putl, zC, zB] at HH; (try simp only [Act.put, zz])))) | ((with_reducible show Code.wp _ (Code.region _ _ true) _ _ _); (first | (refine wp_tail1_Hp (id := 14) [0, 1, 2, 3, 4, 5] 6 [7] (by kernel_rfl) HH rfl lays_alloc ?_; clear HH; (try dsimp only); (try simp only [pick, zy]); repeat' (first | ((with_reducible show wpB _ _ _ _ [] _); refine wpB_nil ?_; intro b V HH; (try simp only [pick, zy]); (try simp only [Act.put, zz]); (try simp only [Value.cells] at HH)) | (((with_reducible show zU _); (first | ((with_reducible show zT (Op.move _)); refine wpB_move rfl rfl rfl ?_) | ((with_reducible show zT (Op.lookup 90 _ _ _)); refine wpB_lookN1 1 p hgx rfl rfl rfl rfl rfl ?_) | ((with_reducible show zT (Op.load _ _)); (first | refine wpB_load 0 rfl rfl rfl rfl rfl ?_ | refine wpB_load 2 rfl rfl rfl rfl rfl ?_)) | (refine wpB_val (v := ?_) rfl ?_ ?_; rotate_left; (focus (intro w9 hS9; go_simp; all_goals (with_reducible rfl)))))); all_goals (try simp only [Act.put, zz, Act.eval, zx])))) | (refine wp_tail_Hp (id := 16) [0, 1, 2, 3, 4, 5] [6] (by kernel_rfl) HH ?_; clear HH; (try dsimp only); (try simp only [pick, zy]); repeat' (first | ((with_reducible show wpB _ _ _ _ [] _); refine wpB_nil ?_; intro V HH; (try simp only [pick, zy]); (try simp only [Act.put, zz]); (try simp only [Value.cells] at HH)) | (((with_reducible show zU _); (first | ((with_reducible show zT (Op.move _)); refine wpB_move rfl rfl rfl ?_) | ((with_reducible show zT (Op.load _ _)); (first | refine wpB_load 0 rfl rfl rfl rfl rfl ?_ | refine wpB_load 1 rfl rfl rfl rfl rfl ?_ | refine wpB_load 3 rfl rfl rfl rfl rfl ?_)) | (refine wpB_val (v := ?_) rfl ?_ ?_; rotate_left; (focus (intro w9 hS9; go_simp; all_goals (with_reducible rfl)))))); all_goals (try simp only [Act.put, zz, Act.eval, zx])))))))
        go_ret
        refine ⟨rfl, ?_⟩
        rw [show mget (addAll sl mm c []).1 p = none from hgx]
        simp only [Option.getD_none, Nat.zero_add]
        exact (HH.drop rfl).lose 2 rfl rfl
      | some u =>
        have hu : u.1 + wv ≤ 4611686018427387904 := hmm2 u hgx
        have w3 : IntKind.u64.wrap ((u.1 : Int) + (wv : Int)) = ((u.1 + wv : Nat) : Int) := by rw [IntWalk.u64_in _ (by omega)]; push_cast; rfl
        go_wp2_with (first | ((with_reducible show zW (Op.mapUpdate 90 _ _ _)); (refine wpl_put (enc := encG) HH 2 p (u.1 + wv, u.2) rfl rfl rfl rfl rfl rfl ?_); clear HH; intro V HH; (try simp only [zC, zB] at HH); (try simp only [Act.put, zz])) | ((with_reducible show zX (Op.load _ _)); (first | (refine wpl_load HH 0 rfl rfl rfl rfl rfl ?_; (try simp only [Act.put, zz])) | (refine wpl_load HH 1 rfl rfl rfl rfl rfl ?_; (try simp only [Act.put, zz])))) | ((with_reducible show zX (Op.binOp _ _ _ _ _)); (refine wpl_cmp (p := ?_) rfl rfl rfl ?_ ?_ ?_; rotate_left; (focus (go_simp; with_reducible rfl)); all_goals (intro hq; (try (contradiction)); (try simp only [zw] at hq); (try simp only [Act.put, zz])))) | ((with_reducible show zW (Op.store _ _ _)); (first | (refine wpl_store HH 0 rfl rfl rfl rfl rfl rfl rfl rfl ?_; clear HH; intro V HH; simp only [Act.eval, zx, Value.cells, putl, zC, zB] at HH; (try simp only [Act.put, zz])) | (refine wpl_store HH 1 rfl rfl rfl rfl rfl rfl rfl rfl ?_; clear HH; intro V HH; simp only [Act.eval, zx, Value.cells, putl, zC, zB] at HH; (try simp only [Act.put, zz])))) | ((with_reducible show Code.wp _ (Code.region _ _ true) _ _ _); (first | (refine wp_tail1_Hp (id := 14) [0, 1, 2, 3, 4, 5] 6 [7] (by kernel_rfl) HH rfl lays_alloc ?_; clear HH; (try dsimp only); (try simp only [pick, zy]); repeat' (first | ((with_reducible show wpB _ _ _ _ [] _); refine wpB_nil ?_; intro b V HH; (try simp only [pick, zy]); (try simp only [Act.put, zz]); (try simp only [Value.cells] at HH)) | (((with_reducible show zU _); (first | ((with_reducible show zT (Op.move _)); refine wpB_move rfl rfl rfl ?_) | ((with_reducible show zT (Op.lookup 90 _ _ _)); refine wpB_lookS1 1 p hgx rfl rfl rfl rfl rfl ?_) | ((with_reducible show zT (Op.load _ _)); (first | refine wpB_load 0 rfl rfl rfl rfl rfl ?_ | refine wpB_load 2 rfl rfl rfl rfl rfl ?_)) | (refine wpB_val (v := ?_) rfl ?_ ?_; rotate_left; (focus (intro w9 hS9; go_simp; all_goals (with_reducible rfl)))))); all_goals (try simp only [Act.put, zz, Act.eval, zx])))) | (refine wp_tail_Hp (id := 16) [0, 1, 2, 3, 4, 5] [6] (by kernel_rfl) HH ?_; clear HH; (try dsimp only); (try simp only [pick, zy]); repeat' (first | ((with_reducible show wpB _ _ _ _ [] _); refine wpB_nil ?_; intro V HH; (try simp only [pick, zy]); (try simp only [Act.put, zz]); (try simp only [Value.cells] at HH)) | (((with_reducible show zU _); (first | ((with_reducible show zT (Op.move _)); refine wpB_move rfl rfl rfl ?_) | ((with_reducible show zT (Op.load _ _)); (first | refine wpB_load 0 rfl rfl rfl rfl rfl ?_ | refine wpB_load 1 rfl rfl rfl rfl rfl ?_ | refine wpB_load 3 rfl rfl rfl rfl rfl ?_)) | (refine wpB_val (v := ?_) rfl ?_ ?_; rotate_left; (focus (intro w9 hS9; go_simp; all_goals (with_reducible rfl)))))); all_goals (try simp only [Act.put, zz, Act.eval, zx])))))))
        go_ret
        refine ⟨rfl, ?_⟩
        rw [show mget (addAll sl mm c []).1 p = some u from hgx]
        simp only [zL]
        exact (HH.drop rfl).lose 2 rfl rfl
  · cases h1
    subst h3
    have HH2 : Hp w0 V (TE T s full n sl bm :: ⟨bm, mp encG mm c, true⟩ :: ⟨g, .cells (prow L ++ js).toArray 34 (0, 0), true⟩ :: ⟨b, .cells #[.int .i64 p.a0, .int .i64 p.a1, .int .i64 p.k0.k, .int .i64 p.k0.l, .int .u64 (p.k0.hi : Int), .int .u64 (p.k0.lo : Int), .string p.k0.p, .int .i64 p.k1.k, .int .i64 p.k1.l, .int .u64 (p.k1.hi : Int), .int .u64 (p.k1.lo : Int), .string p.k1.p] 34 (0, 0), true⟩ :: l) := HH.perm (List.perm_middle (l₁ := [_, _])).symm
    clear HH
    have HH := HH2
    clear HH2
    go_loopw [34] (fun i wr => ∃ k : Nat, k ≤ L.length ∧ i = .int .i64 k ∧ Hp w0 wr (TE T s full n sl bm :: ⟨bm, mp encG (addAll sl mm c (L.take k)).1 (addAll sl mm c (L.take k)).2, true⟩ :: (Hp.lst HH).tail.tail)) (fun i _ => ((L.length : Int) - intOf i).toNat)
    case atStart => exact ⟨0, by omega, rfl, HH⟩
    case round =>
      obtain ⟨k, hk0, rfl, HR2⟩ := hrel
      dsimp only [Hp.lst, List.tail] at HR2
      have HH := HR2
      clear HR2
      by_cases hk : k < L.length
      · have hk2 : (k : Int) < (L.length : Int) := by omega
        have hss := addAll_snoc sl mm c (L.take k) L[k]
        rw [← List.take_succ_eq_append_getElem hk] at hss
        obtain ⟨mk, hmk⟩ : ∃ mk, mk = addAll sl mm c (L.take k) := ⟨_, rfl⟩
        rw [← hmk] at HH hss
        go_wp2_with (first | ((with_reducible show zW (Op.indexAddr 173 _ _)); refine wpl_valu rfl (run_idx173 (p := k) rfl rfl rfl (by omega) _) ?_; (try simp only [Act.put, zz])) | ((with_reducible show zW (Op.load 34 _)); (refine wpl_load HH 2 rfl rfl rfl rfl (prow_get L k _ hk) ?_); (try simp only [Act.put, zz])) | ((with_reducible show zW (Op.mapUpdate 90 _ _ _)); (refine wpl_put (enc := encG) HH 2 L[k] (0, sl) rfl rfl rfl rfl rfl rfl ?_); clear HH; intro V HH; (try simp only [zC, zB] at HH); (try simp only [Act.put, zz])) | ((with_reducible show zX (Op.binOp _ _ _ _ _)); (refine wpl_cmp (p := ?_) rfl rfl rfl ?_ ?_ ?_; rotate_left; (focus (go_simp; with_reducible rfl)); all_goals (intro hq; (try (contradiction)); (try simp only [zw] at hq); (try simp only [Act.put, zz])))) | ((with_reducible show zW (Op.store _ _ _)); (refine wpl_store HH 0 rfl rfl rfl rfl rfl rfl rfl rfl ?_; clear HH; intro V HH; simp only [Act.eval, zx, Value.cells, putl, zC, zB] at HH; (try simp only [Act.put, zz]))) | ((with_reducible show zW (Op.alloc _)); refine wpl_alloc HH rfl rfl ?_; clear HH; intro b V HH; simp only [Act.eval, zx, Value.cells, putl, zC, zB] at HH; (try simp only [Act.put, zz])) | ((with_reducible show Code.wp _ (Code.region _ _ true) _ _ _); (refine wp_tail_Hp (id := 12) [0, 1, 2, 3, 4, 5, 6, 7, 8, 9] [10] (by kernel_rfl) HH ?_; clear HH; (try dsimp only); (try simp only [pick, zy]); repeat' (first | ((with_reducible show wpB _ _ _ _ [] _); refine wpB_nil ?_; intro V HH; (try simp only [pick, zy]); (try simp only [Act.put, zz]); (try simp only [Value.cells] at HH)) | (((with_reducible show zU _); (first | ((with_reducible show zT (Op.move _)); refine wpB_move rfl rfl rfl ?_) | ((with_reducible show zT (Op.load _ _)); (first | refine wpB_load 0 rfl rfl rfl rfl rfl ?_ | refine wpB_load 1 rfl rfl rfl rfl rfl ?_)) | (refine wpB_val (v := ?_) rfl ?_ ?_; rotate_left; (focus (intro w9 hS9; go_simp; all_goals (with_reducible rfl)))))); all_goals (try simp only [Act.put, zz, Act.eval, zx]))))))
        refine ⟨⟨k + 1, by omega, by push_cast; rfl, ?_⟩, by simp [intOf]; omega⟩
        rw [hss]
        exact HH.drop rfl
      · have hk2 : ¬ (k : Int) < (L.length : Int) := by omega
        rw [List.take_of_length_le (by omega)] at HH
        obtain ⟨mk, hmk⟩ : ∃ mk, mk = addAll sl mm c L := ⟨_, rfl⟩
        rw [← hmk] at HH hmm2
        cases hgx : mget mk.1 p with
        | none =>
          go_wp2_with (first | ((with_reducible show zW (Op.mapUpdate 90 _ _ _)); (refine wpl_put (enc := encG) HH 2 p (wv, 0) rfl rfl rfl rfl rfl rfl ?_); clear HH; intro V HH; (try simp only [zC, zB] at HH); (try simp only [Act.put, zz])) | ((with_reducible show zX (Op.load _ _)); (first | (refine wpl_load HH 0 rfl rfl rfl rfl rfl ?_; (try simp only [Act.put, zz])) | (refine wpl_load HH 1 rfl rfl rfl rfl rfl ?_; (try simp only [Act.put, zz])))) | ((with_reducible show zX (Op.binOp _ _ _ _ _)); (refine wpl_cmp (p := ?_) rfl rfl rfl ?_ ?_ ?_; rotate_left; (focus (go_simp; with_reducible rfl)); all_goals (intro hq; (try (contradiction)); (try simp only [zw] at hq); (try simp only [Act.put, zz])))) | ((with_reducible show zW (Op.store _ _ _)); (first | (refine wpl_store HH 0 rfl rfl rfl rfl rfl rfl rfl rfl ?_; clear HH; intro V HH; simp only [Act.eval, zx, Value.cells, putl, zC, zB] at HH; (try simp only [Act.put, zz])) | (refine wpl_store HH 1 rfl rfl rfl rfl rfl rfl rfl rfl ?_; clear HH; intro V HH; simp only [Act.eval, zx, Value.cells, putl, zC, zB] at HH; (try simp only [Act.put, zz])))) | ((with_reducible show Code.wp _ (Code.region _ _ true) _ _ _); (first | (refine wp_tail1_Hp (id := 14) [0, 1, 2, 3, 4, 5] 6 [7] (by kernel_rfl) HH rfl lays_alloc ?_; clear HH; (try dsimp only); (try simp only [pick, zy]); repeat' (first | ((with_reducible show wpB _ _ _ _ [] _); refine wpB_nil ?_; intro b V HH; (try simp only [pick, zy]); (try simp only [Act.put, zz]); (try simp only [Value.cells] at HH)) | (((with_reducible show zU _); (first | ((with_reducible show zT (Op.move _)); refine wpB_move rfl rfl rfl ?_) | ((with_reducible show zT (Op.lookup 90 _ _ _)); refine wpB_lookN1 1 p hgx rfl rfl rfl rfl rfl ?_) | ((with_reducible show zT (Op.load _ _)); (first | refine wpB_load 0 rfl rfl rfl rfl rfl ?_ | refine wpB_load 3 rfl rfl rfl rfl rfl ?_)) | (refine wpB_val (v := ?_) rfl ?_ ?_; rotate_left; (focus (intro w9 hS9; go_simp; all_goals (with_reducible rfl)))))); all_goals (try simp only [Act.put, zz, Act.eval, zx])))) | (refine wp_tail_Hp (id := 16) [0, 1, 2, 3, 4, 5] [6] (by kernel_rfl) HH ?_; clear HH; (try dsimp only); (try simp only [pick, zy]); repeat' (first | ((with_reducible show wpB _ _ _ _ [] _); refine wpB_nil ?_; intro V HH; (try simp only [pick, zy]); (try simp only [Act.put, zz]); (try simp only [Value.cells] at HH)) | (((with_reducible show zU _); (first | ((with_reducible show zT (Op.move _)); refine wpB_move rfl rfl rfl ?_) | ((with_reducible show zT (Op.load _ _)); (first | refine wpB_load 0 rfl rfl rfl rfl rfl ?_ | refine wpB_load 1 rfl rfl rfl rfl rfl ?_ | refine wpB_load 4 rfl rfl rfl rfl rfl ?_)) | (refine wpB_val (v := ?_) rfl ?_ ?_; rotate_left; (focus (intro w9 hS9; go_simp; all_goals (with_reducible rfl)))))); all_goals (try simp only [Act.put, zz, Act.eval, zx])))))))
          go_ret
          refine ⟨rfl, ?_⟩
          rw [← hmk]
          rw [show mget mk.1 p = none from hgx]
          simp only [Option.getD_none, Nat.zero_add]
          exact ((HH.drop rfl).lose 2 rfl rfl).lose 2 rfl rfl
        | some u =>
          have hu : u.1 + wv ≤ 4611686018427387904 := hmm2 u hgx
          have w3 : IntKind.u64.wrap ((u.1 : Int) + (wv : Int)) = ((u.1 + wv : Nat) : Int) := by rw [IntWalk.u64_in _ (by omega)]; push_cast; rfl
          go_wp2_with (first | ((with_reducible show zW (Op.mapUpdate 90 _ _ _)); (refine wpl_put (enc := encG) HH 2 p (u.1 + wv, u.2) rfl rfl rfl rfl rfl rfl ?_); clear HH; intro V HH; (try simp only [zC, zB] at HH); (try simp only [Act.put, zz])) | ((with_reducible show zX (Op.load _ _)); (first | (refine wpl_load HH 0 rfl rfl rfl rfl rfl ?_; (try simp only [Act.put, zz])) | (refine wpl_load HH 1 rfl rfl rfl rfl rfl ?_; (try simp only [Act.put, zz])))) | ((with_reducible show zX (Op.binOp _ _ _ _ _)); (refine wpl_cmp (p := ?_) rfl rfl rfl ?_ ?_ ?_; rotate_left; (focus (go_simp; with_reducible rfl)); all_goals (intro hq; (try (contradiction)); (try simp only [zw] at hq); (try simp only [Act.put, zz])))) | ((with_reducible show zW (Op.store _ _ _)); (first | (refine wpl_store HH 0 rfl rfl rfl rfl rfl rfl rfl rfl ?_; clear HH; intro V HH; simp only [Act.eval, zx, Value.cells, putl, zC, zB] at HH; (try simp only [Act.put, zz])) | (refine wpl_store HH 1 rfl rfl rfl rfl rfl rfl rfl rfl ?_; clear HH; intro V HH; simp only [Act.eval, zx, Value.cells, putl, zC, zB] at HH; (try simp only [Act.put, zz])))) | ((with_reducible show Code.wp _ (Code.region _ _ true) _ _ _); (first | (refine wp_tail1_Hp (id := 14) [0, 1, 2, 3, 4, 5] 6 [7] (by kernel_rfl) HH rfl lays_alloc ?_; clear HH; (try dsimp only); (try simp only [pick, zy]); repeat' (first | ((with_reducible show wpB _ _ _ _ [] _); refine wpB_nil ?_; intro b V HH; (try simp only [pick, zy]); (try simp only [Act.put, zz]); (try simp only [Value.cells] at HH)) | (((with_reducible show zU _); (first | ((with_reducible show zT (Op.move _)); refine wpB_move rfl rfl rfl ?_) | ((with_reducible show zT (Op.lookup 90 _ _ _)); refine wpB_lookS1 1 p hgx rfl rfl rfl rfl rfl ?_) | ((with_reducible show zT (Op.load _ _)); (first | refine wpB_load 0 rfl rfl rfl rfl rfl ?_ | refine wpB_load 3 rfl rfl rfl rfl rfl ?_)) | (refine wpB_val (v := ?_) rfl ?_ ?_; rotate_left; (focus (intro w9 hS9; go_simp; all_goals (with_reducible rfl)))))); all_goals (try simp only [Act.put, zz, Act.eval, zx])))) | (refine wp_tail_Hp (id := 16) [0, 1, 2, 3, 4, 5] [6] (by kernel_rfl) HH ?_; clear HH; (try dsimp only); (try simp only [pick, zy]); repeat' (first | ((with_reducible show wpB _ _ _ _ [] _); refine wpB_nil ?_; intro V HH; (try simp only [pick, zy]); (try simp only [Act.put, zz]); (try simp only [Value.cells] at HH)) | (((with_reducible show zU _); (first | ((with_reducible show zT (Op.move _)); refine wpB_move rfl rfl rfl ?_) | ((with_reducible show zT (Op.load _ _)); (first | refine wpB_load 0 rfl rfl rfl rfl rfl ?_ | refine wpB_load 1 rfl rfl rfl rfl rfl ?_ | refine wpB_load 4 rfl rfl rfl rfl rfl ?_)) | (refine wpB_val (v := ?_) rfl ?_ ?_; rotate_left; (focus (intro w9 hS9; go_simp; all_goals (with_reducible rfl)))))); all_goals (try simp only [Act.put, zz, Act.eval, zx])))))))
          go_ret
          refine ⟨rfl, ?_⟩
          rw [← hmk]
          rw [show mget mk.1 p = some u from hgx]
          simp only [zL]
          exact ((HH.drop rfl).lose 2 rfl rfl).lose 2 rfl rfl

end Go.Proofs.YtcbahkfbdlhabaaGreatDoor
namespace Go.Proofs.YtcbahkfbdlhabaaGreatDoor
set_option linter.unusedVariables false
set_option linter.unusedSimpArgs false
open Go.RowKit
attribute [local go_sem] index24_0 index24_1 field34_0 field34_1
attribute [local irreducible] wpList Code.wp wpB

set_option maxRecDepth 100000 in
set_option maxHeartbeats 4000000 in
theorem refOf_nil (k : Int) (a : Option Addr) (c : Nat) (hk : k ≠ 3) (w : World) : Calls Tryz.prog 55 #[.int .i64 k, .slice a 0 c] w fun e w' => e = .returned (.agg #[.int .i64 k, .int .i64 0, .int .u64 0, .int .u64 0, .string ⟨#[]⟩]) ∧ Below w.heap.size w w' := by
  have hk2 : (k == 3) = false := by simpa using hk
  have HH := Hp.nil w
  go_enter Tryz.func55, Tryz.ntmps55
  go_wp2_with (first | ((with_reducible show Code.wp _ (Code.loop _) _ _ _); refine wp_loop_rounds 1 ?_; rw [rounds_succ]) | ((with_reducible show zX (Op.load _ _)); (refine wpl_load HH 0 rfl rfl rfl rfl rfl ?_; (try simp only [Act.put, zz]))) | ((with_reducible show zX (Op.binOp _ _ _ _ _)); (refine wpl_cmp (p := ?_) rfl rfl rfl ?_ ?_ ?_; rotate_left; (focus (go_simp; with_reducible rfl)); all_goals (intro hq; (try (contradiction)); (try simp only [zw] at hq); (try simp only [Act.put, zz])))) | ((with_reducible show zW (Op.store _ _ _)); (first | (refine wpl_store HH 0 rfl rfl rfl rfl rfl rfl rfl rfl ?_; clear HH; intro V HH; simp only [Act.eval, zx, Value.cells, putl, zC, zB] at HH; (try simp only [Act.put, zz])) | (refine wpl_store HH 1 rfl rfl rfl rfl rfl rfl rfl rfl ?_; clear HH; intro V HH; simp only [Act.eval, zx, Value.cells, putl, zC, zB] at HH; (try simp only [Act.put, zz])))) | ((with_reducible show zW (Op.alloc _)); refine wpl_alloc HH rfl rfl ?_; clear HH; intro b V HH; simp only [Act.eval, zx, Value.cells, putl, zC, zB] at HH; (try simp only [Act.put, zz])))
  all_goals (try (exfalso; simp_all; done))
  all_goals (((refine bodyPost_ret (results_c rfl HH 1 rfl rfl rfl) rfl ⟨?_, HH.below rfl⟩); (rfl)))

end Go.Proofs.YtcbahkfbdlhabaaGreatDoor
