/- A part of the proof that the law TopThree returns true for all arguments of bulk at most 1048576 (no other condition). Here: trie.rooted. trie.Right, trie.Of. -/
import Derived.Test.YtcbahkfbdlhabaaGreatDoorK18
namespace Go.Proofs.YtcbahkfbdlhabaaGreatDoor
set_option linter.unusedVariables false
set_option linter.unusedSimpArgs false
open Go.RowKit
attribute [local go_sem] index24_0 index24_1 field34_0 field34_1
attribute [local irreducible] wpList Code.wp wpB

/-- It is a Bool. -/
def IsB (v : Value) : Prop := ∃ b, v = .bool b
/-- A map of numbers from 1 to n. -/
def NOk (m : List (Me Nat)) (n : Nat) : Prop := ∀ x ∈ m, 1 ≤ x.v ∧ x.v ≤ n
theorem NOk.put {m : List (Me Nat)} {n c : Nat} (h : NOk m n) (p : Px) (v : Nat) (h1 : 1 ≤ v) (h2 : v ≤ n) : NOk (mputL m c p v) n := by
  intro x hx
  cases hg : mget m p with
  | none =>
    rw [(mput_none hg).1] at hx
    rcases List.mem_append.1 hx with hx | hx
    · exact h x hx
    · rw [List.mem_singleton] at hx
      subst hx
      exact ⟨h1, h2⟩
  | some u =>
    obtain ⟨l1, y, l2, rfl, _, _, h3, _, _⟩ := mput_some (c := c) (v := v) hg
    rw [h3] at hx
    simp only [List.mem_append, List.mem_cons] at hx
    rcases hx with hx | rfl | hx
    · exact h x (by simp [hx])
    · exact ⟨h1, h2⟩
    · exact h x (by simp [hx])

set_option maxRecDepth 100000 in
set_option maxHeartbeats 4000000 in
theorem rooted_walk (w : World) {g cap n sl : Nat} {s : Sp} {full : Bool} {L : List Nd} {js : List Value} (hg : w.heap[g]? = some (.cells (nrow L ++ js).toArray 176 (0, 0))) (hok : ∀ x ∈ L, x.p.ok) (hlen : L.length ≤ 1000000) (hpos : ∀ x ∈ L, 1 ≤ (allP s x.p).length) :
    Calls Tryz.prog 160 #[(tv s full n sl (.slice (some ⟨g, 0, none⟩) L.length cap))] w fun e w' => (∃ v, e = .returned v ∧ IsB v) ∧ Below w.heap.size w w' := by
  have HH : Hp w w [⟨g, .cells (nrow L ++ js).toArray 176 (0, 0), false⟩] := Hp.start ⟨hg, trivial⟩ (by simp) rfl
  have hGL := Lib.hid hg
  clear hg
  have HTOP := top_gives30 s
  generalize htx : topX s = tx at *
  obtain ⟨ta0, ta1, ⟨tk0, tl0, th0, to0, tp0⟩, ⟨tk1, tl1, th1, to1, tp1⟩⟩ := tx
  go_enter Tryz.func160, Tryz.ntmps160
  go_wp2_with (first | ((with_reducible show zW (Op.makeMap 94 _)); (first | (refine wpl_mkmap (enc := encN) (l := [_, _, _]) HH rfl rfl ?_; clear HH; intro bn V HH) | (refine wpl_mkmap (enc := encI) HH rfl rfl ?_; clear HH; intro bi V HH)); (try simp only [Act.put, zz])) | (go_at_call 30; (with_reducible refine ((HTOP) _).mono ?_); rintro e V ⟨rfl, hb⟩; replace HH := HH.next hb; clear hb) | ((with_reducible show zX (Op.load _ _)); (first | (refine wpl_load HH 0 rfl rfl rfl rfl rfl ?_; (try simp only [Act.put, zz])) | (refine wpl_load HH 3 rfl rfl rfl rfl rfl ?_; (try simp only [Act.put, zz])))) | ((with_reducible show zW (Op.store _ _ _)); (refine wpl_store HH 0 rfl rfl rfl rfl rfl rfl rfl rfl ?_; clear HH; intro V HH; simp only [Act.eval, zx, Value.cells, putl, zC, zB] at HH; (try simp only [Act.put, zz]))) | ((with_reducible show zW (Op.box _ _)); refine wpl_box HH rfl rfl rfl ?_; clear HH; intro b V HH; simp only [Act.eval, zx, Value.cells, putl, zC, zB] at HH; (try simp only [Act.put, zz])) | ((with_reducible show zW (Op.alloc _)); refine wpl_alloc HH rfl rfl ?_; clear HH; intro b V HH; simp only [Act.eval, zx, Value.cells, putl, zC, zB] at HH; (try simp only [Act.put, zz])))
  go_loopw [22] (fun i wr => ∃ (k : Nat) (m4 : List (Me Nat)) (c4 : Nat) (m5 : List (Me Int)) (c5 : Nat), k ≤ L.length ∧ i = .int .i64 k ∧ MOk m4 c4 ∧ NOk m4 L.length ∧ MOk m5 c5 ∧ Hp w wr (⟨bi, mp encI m5 c5, true⟩ :: ⟨bn, mp encN m4 c4, true⟩ :: (Hp.lst HH).tail.tail)) (fun i _ => ((L.length : Int) - intOf i).toNat)
  case atStart => exact ⟨0, [], 0, [], 0, by omega, rfl, MOk.nil, (fun x hx => by cases hx), MOk.nil, HH⟩
  case round =>
    obtain ⟨k, m4, c4, m5, c5, hk0, rfl, ho4, hn4, ho5, HR2⟩ := hrel
    dsimp only [Hp.lst, List.tail] at HR2
    have HH := HR2
    clear HR2
    by_cases hk : k < L.length
    · have hk2 : (k : Int) < (L.length : Int) := by omega
      have hmem : L[k] ∈ L := List.getElem_mem hk
      have HALL := allP_gives s L[k].p (hok _ hmem)
      have hA1 := hpos _ hmem
      have hA2 := allP_le s L[k].p
      generalize allP s L[k].p = A at HALL hA1 hA2
      go_wp2_with (first | ((with_reducible show zW (Op.indexAddr 167 _ _)); refine wpl_valu rfl (run_idx167 (p := k) rfl rfl rfl (by omega) _) ?_; (try simp only [Act.put, zz])) | ((with_reducible show zW (Op.load 176 _)); (refine wpl_load HH 4 rfl rfl rfl rfl (nrow_get L k _ hk) ?_); (try simp only [Act.put, zz])) | ((with_reducible show zW (Op.mapUpdate 94 _ _ _)); (refine wpl_put (enc := encN) HH 2 L[k].p (k + 1) rfl rfl rfl rfl rfl rfl ?_); clear HH; intro V HH; (try simp only [zC, zB] at HH); (try simp only [Act.put, zz])) | (go_at_call 148; (with_reducible refine (HALL _).mono ?_); rintro e V ⟨v, r, rfl, HS, hh⟩; obtain ⟨g2, cap2, js2, rfl, rfl, hc2, hc3, hc4⟩ := HS.some (by omega); replace HH := HH.join hh (by simp); clear hh; have HH2 := HH.perm (List.perm_append_comm (l₁ := [_])); clear HH; have HH := HH2; clear HH2; (try simp only [List.cons_append, List.nil_append] at HH); (try simp only [Act.put, zz])) | ((with_reducible show zW (Op.slice _ _ _ _ _)); refine wpl_slice1 rfl rfl rfl (by omega) (by omega) rfl ?_; intro dd hdd; (try simp only [Act.put, zz])) | ((with_reducible show zX (Op.load _ _)); (first | (refine wpl_load HH 0 rfl rfl rfl rfl rfl ?_; (try simp only [Act.put, zz])) | (refine wpl_load HH 4 rfl rfl rfl rfl rfl ?_; (try simp only [Act.put, zz])))) | ((with_reducible show zX (Op.binOp _ _ _ _ _)); (refine wpl_cmp (p := ?_) rfl rfl rfl ?_ ?_ ?_; rotate_left; (focus (go_simp; with_reducible rfl)); all_goals (intro hq; (try (contradiction)); (try simp only [zw] at hq); (try simp only [Act.put, zz])))) | ((with_reducible show zW (Op.store _ _ _)); (refine wpl_store HH 0 rfl rfl rfl rfl rfl rfl rfl rfl ?_; clear HH; intro V HH; simp only [Act.eval, zx, Value.cells, putl, zC, zB] at HH; (try simp only [Act.put, zz]))) | ((with_reducible show zW (Op.alloc _)); refine wpl_alloc HH rfl rfl ?_; clear HH; intro b V HH; simp only [Act.eval, zx, Value.cells, putl, zC, zB] at HH; (try simp only [Act.put, zz])))
      have HH2 := HH.perm (List.Perm.swap _ _ _)
      clear HH
      have HH := HH2
      clear HH2
      go_loopw [39] (fun i wr => ∃ (j : Nat) (m5 : List (Me Int)) (c5 : Nat), j ≤ A.length - 1 ∧ i = .int .i64 j ∧ MOk m5 c5 ∧ Hp w wr (⟨bi, mp encI m5 c5, true⟩ :: (Hp.lst HH).tail)) (fun i _ => (((A.length - 1 : Nat) : Int) - intOf i).toNat)
      case atStart => exact ⟨0, m5, c5, by omega, rfl, ho5, HH⟩
      case round =>
        clear ho5
        obtain ⟨j, m5, c5, hj0, rfl, ho5, HR2⟩ := hrel
        dsimp only [Hp.lst, List.tail] at HR2
        have HH := HR2
        clear HR2
        by_cases hj : j < A.length - 1
        · have hj1 : j + 1 < A.length := by omega
          have hj2 : (j : Int) < ((A.length - 1 : Nat) : Int) := by omega
          have hd9 := hdd (by omega)
          subst hd9
          obtain ⟨u, hu⟩ : ∃ u : Int, ((mget m5 A[j + 1]).map encI).getD (.int .i64 0) = .int .i64 u := by cases mget m5 A[j + 1] <;> exact ⟨_, rfl⟩
          go_wp2_with (first | ((with_reducible show zW (Op.indexAddr 173 _ _)); refine wpl_valu rfl (run_idx173o (p := j) rfl rfl rfl (by omega) _) ?_; (try simp only [Act.put, zz])) | ((with_reducible show zW (Op.load 34 _)); (refine wpl_load HH 6 rfl rfl rfl rfl (prow_get1 A j _ hj1) ?_); (try simp only [Act.put, zz])) | ((with_reducible show Code.wp _ (Code.region _ _ true) _ _ _); have HH2 := HH.perm (List.Perm.swap _ _ _); clear HH; have HH := HH2; clear HH2; (refine wp_region_any (id := 10) (by kernel_rfl) (wpAny_float [0, 1, 2, 3] [4, 5] [6] (by kernel_rfl) (C := CE encI (.int .i64 0) _ _ A[j + 1] (.int .i64 u) _) ⟨fun V h => ⟨_, _, hu, h⟩, fun _ _ h hb => h.next hb⟩ HH.drew ?_); clear HH; (try dsimp only); (try simp only [pick, zy]); repeat' (first | ((with_reducible show wpB _ _ _ _ [] _); refine wpB_nil ?_; (try simp only [pick, zy]); (try simp only [Act.put, zz])) | (((with_reducible show zU _); (first | ((with_reducible show zT (Op.move _)); refine wpB_move rfl rfl rfl ?_) | ((with_reducible show zU (Op.load _ _)); refine wpB_loadE 0 rfl rfl rfl rfl rfl ?_) | ((with_reducible show zU (Op.lookup 94 _ _ _)); refine wpB_lookE rfl rfl rfl rfl ?_) | (refine wpB_val (v := ?_) rfl ?_ ?_; rotate_left; (focus (intro w9 hS9; go_simp; all_goals (with_reducible rfl)))))); all_goals (try simp only [Act.put, zz, Act.eval, zx]))))) | ((with_reducible show zW (Op.mapEntry 94 _ _)); refine wpl_mapEntry (0 : Int) rfl HH 0 (by assumption) A[j + 1] rfl rfl rfl rfl rfl ?_; intro v0 st m1 c1 V hm1 hst HH2; rw [hu] at hm1; clear HH; have HH := HH2; clear HH2; (try simp only [zC, zB] at HH); (try simp only [Act.put, zz])) | ((with_reducible show zW (Op.entryStore 94 _ _ _)); refine wpl_entryStore (IntKind.i64.wrap (u + 1)) hst HH 0 rfl rfl rfl rfl rfl rfl ?_; clear HH hst; intro V HH; (try simp only [zC, zB] at HH); (try simp only [Act.put, zz])) | ((with_reducible show stepQ _ _ _ _ _ _ _); refine stepQ_on HH (by (exact fun V h => ⟨_, _, hm1, h⟩)) ?_; clear HH) | ((with_reducible show wpS _ _ _ _ (_ :: _) _ _); refine wpS_step rfl (fun V HH => ?_)) | ((with_reducible show wpS _ _ _ _ _ _ _); refine wpS_nil ?_; intro V HH; (try dsimp only at HH); (try simp only [pick, zy]); (try simp only [Act.put, zz])) | ((with_reducible show zX (Op.binOp _ _ _ _ _)); (refine wpl_cmp (p := ?_) rfl rfl rfl ?_ ?_ ?_; rotate_left; (focus (go_simp; with_reducible rfl)); all_goals (intro hq; (try (contradiction)); (try simp only [zw] at hq); (try simp only [Act.put, zz])))) | ((with_reducible show zW (Op.store _ _ _)); (refine wpl_store HH 0 rfl rfl rfl rfl rfl rfl rfl rfl ?_; clear HH; intro V HH; simp only [Act.eval, zx, Value.cells, putl, zC, zB] at HH; (try simp only [Act.put, zz]))) | ((with_reducible show zW (Op.alloc _)); refine wpl_alloc HH rfl rfl ?_; clear HH; intro b V HH; simp only [Act.eval, zx, Value.cells, putl, zC, zB] at HH; (try simp only [Act.put, zz])))
          refine ⟨⟨j + 1, _, _, by omega, by push_cast; rfl, ho5.put _ _, HH.lose 1 rfl rfl⟩, by simp [intOf]; omega⟩
        · have hj2 : ¬ (j : Int) < ((A.length - 1 : Nat) : Int) := by omega
          go_wp2_with ((with_reducible show zX (Op.binOp _ _ _ _ _)); (refine wpl_cmp (p := ?_) rfl rfl rfl ?_ ?_ ?_; rotate_left; (focus (go_simp; with_reducible rfl)); all_goals (intro hq; (try (contradiction)); (try simp only [zw] at hq); (try simp only [Act.put, zz]))))
          refine ⟨⟨k + 1, _, _, _, _, by omega, by push_cast; rfl, ho4.put _ _, hn4.put _ _ (by omega) (by omega), ho5, (HH.lose 1 rfl rfl).lose 5 rfl rfl⟩, by simp [intOf]; omega⟩
    · have hk2 : ¬ (k : Int) < (L.length : Int) := by omega
      cases hgx : mget m4 ⟨ta0, ta1, ⟨tk0, tl0, th0, to0, tp0⟩, ⟨tk1, tl1, th1, to1, tp1⟩⟩ with
      | none =>
        go_wp2_with (first | ((with_reducible show zW (Op.lookup 94 _ _ _)); refine wpl_lookN1 HH 1 ⟨ta0, ta1, ⟨tk0, tl0, th0, to0, tp0⟩, ⟨tk1, tl1, th1, to1, tp1⟩⟩ hgx rfl rfl rfl rfl rfl ?_; (try simp only [Act.put, zz])) | ((with_reducible show zX (Op.load _ _)); (refine wpl_load HH 2 rfl rfl rfl rfl rfl ?_; (try simp only [Act.put, zz]))) | ((with_reducible show zX (Op.binOp _ _ _ _ _)); (refine wpl_cmp (p := ?_) rfl rfl rfl ?_ ?_ ?_; rotate_left; (focus (go_simp; with_reducible rfl)); all_goals (intro hq; (try (contradiction)); (try simp only [zw] at hq); (try simp only [Act.put, zz])))))
        (go_ret; exact ⟨⟨_, rfl, _, rfl⟩, Hp.back (l := [_, _, _, _]) (r := [_]) HH (by intro e he; simp only [List.mem_singleton] at he; subst he; exact hGL.out) rfl⟩)
      | some x =>
        obtain ⟨y, hy, _, rfl⟩ := mem_of_mget hgx
        have hx := hn4 y hy
        obtain ⟨i, hi⟩ : ∃ i, y.v = i + 1 := ⟨y.v - 1, by omega⟩
        rw [hi] at hgx hx
        have hi2 : i < L.length := by omega
        have hwi : IntKind.i64.wrap (i : Int) = (i : Int) := by simp [IntKind.wrap, IntKind.bits, IntKind.signed]; omega
        go_wp2_with (first | ((with_reducible show zW (Op.lookup 94 _ _ _)); refine wpl_lookS1 HH 1 ⟨ta0, ta1, ⟨tk0, tl0, th0, to0, tp0⟩, ⟨tk1, tl1, th1, to1, tp1⟩⟩ hgx rfl rfl rfl rfl rfl ?_; (try simp only [Act.put, zz])) | ((with_reducible show zW (Op.indexAddr 167 _ _)); refine wpl_valu rfl (run_idx167 (p := i) rfl rfl rfl (by omega) _) ?_; (try simp only [Act.put, zz])) | (((with_reducible show zW (Op.load 29 _)); refine wpl_load HH 4 rfl rfl rfl rfl (nrow_getD L i _ hi2) ?_); (try simp only [Act.put, zz])) | ((with_reducible show zX (Op.load _ _)); (first | (refine wpl_load HH 2 rfl rfl rfl rfl rfl ?_; (try simp only [Act.put, zz])) | (refine wpl_load HH 3 rfl rfl rfl rfl rfl ?_; (try simp only [Act.put, zz])))) | ((with_reducible show zX (Op.binOp _ _ _ _ _)); (refine wpl_cmp (p := ?_) rfl rfl rfl ?_ ?_ ?_; rotate_left; (focus (go_simp; with_reducible rfl)); all_goals (intro hq; (try (contradiction)); (try simp only [zw] at hq); (try simp only [Act.put, zz])))) | ((with_reducible show zY (Op.load _ _)); (refine wpl_load HH 3 rfl rfl rfl (by simp only [Region.wanted, yielded, zy, Option.bind_some]; decide) rfl ?_; (try simp only [Act.put, zz]))) | ((with_reducible show zY (Op.binOp _ _ _ _ _)); (refine wpl_cmp (p := ?_) rfl rfl (by simp only [Region.wanted, yielded, zy, Option.bind_some]; decide) ?_ ?_ ?_; rotate_left; (focus (go_simp; with_reducible rfl)); all_goals (intro hq; (try (fail)); (try simp only [zw] at hq); (try simp only [Act.put, zz])))))
        all_goals (try (go_ret; exact ⟨⟨_, rfl, _, rfl⟩, Hp.back (l := [_, _, _, _]) (r := [_]) HH (by intro e he; simp only [List.mem_singleton] at he; subst he; exact hGL.out) rfl⟩))
        go_loopw [69] (fun i wr => ∃ k : Nat, k ≤ L.length ∧ i = .int .i64 k ∧ Hp w wr (Hp.lst HH)) (fun i _ => ((L.length : Int) - intOf i).toNat)
        case atStart => exact ⟨0, by omega, rfl, HH⟩
        case round =>
          obtain ⟨k, hk0, rfl, HR2⟩ := hrel
          dsimp only [Hp.lst] at HR2
          have HH := HR2
          clear HR2
          by_cases hk : k < L.length
          · have hk2 : (k : Int) < (L.length : Int) := by omega
            cases hin : mget m5 L[k].p with
            | none =>
              cases full
              all_goals
                go_wp2_with (first | ((with_reducible show zW (Op.indexAddr 167 _ _)); refine wpl_valu rfl (run_idx167 (p := k) rfl rfl rfl (by omega) _) ?_; (try simp only [Act.put, zz])) | ((with_reducible show zW (Op.load 176 _)); (refine wpl_load HH 4 rfl rfl rfl rfl (nrow_get L k _ hk) ?_); (try simp only [Act.put, zz])) | ((with_reducible show zY (Op.lookup 94 _ _ _)); refine wpl_lookN1 HH 1 L[k].p hin rfl rfl rfl rfl (by simp only [Region.wanted, yielded, zy, Option.bind_some]; decide) ?_; (try simp only [Act.put, zz])) | ((with_reducible show zX (Op.load _ _)); (first | (refine wpl_load HH 0 rfl rfl rfl rfl rfl ?_; (try simp only [Act.put, zz])) | (refine wpl_load HH 3 rfl rfl rfl rfl rfl ?_; (try simp only [Act.put, zz])) | (refine wpl_load HH 4 rfl rfl rfl rfl rfl ?_; (try simp only [Act.put, zz])))) | ((with_reducible show zX (Op.binOp BinOp.neq 34 _ _ _)); refine wpl_neq34 rfl rfl rfl rfl ?_ ?_; all_goals (intro hq; (try simp only [Act.put, zz]))) | ((with_reducible show zX (Op.binOp _ _ _ _ _)); (refine wpl_cmp (p := ?_) rfl rfl rfl ?_ ?_ ?_; rotate_left; (focus (go_simp; with_reducible rfl)); all_goals (intro hq; (try (contradiction)); (try simp only [zw] at hq); (try simp only [Act.put, zz])))) | ((with_reducible show zY (Op.load _ _)); (refine wpl_load HH 0 rfl rfl rfl (by simp only [Region.wanted, yielded, zy, Option.bind_some]; decide) rfl ?_; (try simp only [Act.put, zz]))) | ((with_reducible show zY (Op.binOp _ _ _ _ _)); (refine wpl_cmp (p := ?_) rfl rfl (by simp only [Region.wanted, yielded, zy, Option.bind_some]; decide) ?_ ?_ ?_; rotate_left; (focus (go_simp; with_reducible rfl)); all_goals (intro hq; (try (contradiction)); (try simp only [zw] at hq); (try simp only [Act.put, zz])))) | ((with_reducible show zW (Op.store _ _ _)); (refine wpl_store HH 0 rfl rfl rfl rfl rfl rfl rfl rfl ?_; clear HH; intro V HH; simp only [Act.eval, zx, Value.cells, putl, zC, zB] at HH; (try simp only [Act.put, zz]))) | ((with_reducible show zW (Op.alloc _)); refine wpl_alloc HH rfl rfl ?_; clear HH; intro b V HH; simp only [Act.eval, zx, Value.cells, putl, zC, zB] at HH; (try simp only [Act.put, zz])))
              all_goals (first | (go_ret; exact ⟨⟨_, rfl, _, rfl⟩, Hp.back (l := [_, _, _, _, _]) (r := [_]) HH (by intro e he; simp only [List.mem_singleton] at he; subst he; exact hGL.out) rfl⟩) | (exact ⟨⟨k + 1, by omega, by push_cast; rfl, HH.drop rfl⟩, by simp [intOf]; omega⟩))
            | some u =>
              cases full
              all_goals
                go_wp2_with (first | ((with_reducible show zW (Op.indexAddr 167 _ _)); refine wpl_valu rfl (run_idx167 (p := k) rfl rfl rfl (by omega) _) ?_; (try simp only [Act.put, zz])) | ((with_reducible show zW (Op.load 176 _)); (refine wpl_load HH 4 rfl rfl rfl rfl (nrow_get L k _ hk) ?_); (try simp only [Act.put, zz])) | ((with_reducible show zY (Op.lookup 94 _ _ _)); refine wpl_lookS1 HH 1 L[k].p hin rfl rfl rfl rfl (by simp only [Region.wanted, yielded, zy, Option.bind_some]; decide) ?_; (try simp only [Act.put, zz])) | ((with_reducible show zX (Op.load _ _)); (first | (refine wpl_load HH 0 rfl rfl rfl rfl rfl ?_; (try simp only [Act.put, zz])) | (refine wpl_load HH 3 rfl rfl rfl rfl rfl ?_; (try simp only [Act.put, zz])) | (refine wpl_load HH 4 rfl rfl rfl rfl rfl ?_; (try simp only [Act.put, zz])))) | ((with_reducible show zX (Op.binOp BinOp.neq 34 _ _ _)); refine wpl_neq34 rfl rfl rfl rfl ?_ ?_; all_goals (intro hq; (try simp only [Act.put, zz]))) | ((with_reducible show zX (Op.binOp _ _ _ _ _)); (refine wpl_cmp (p := ?_) rfl rfl rfl ?_ ?_ ?_; rotate_left; (focus (go_simp; with_reducible rfl)); all_goals (intro hq; (try (contradiction)); (try simp only [zw] at hq); (try simp only [Act.put, zz])))) | ((with_reducible show zY (Op.load _ _)); (first | (refine wpl_load HH 0 rfl rfl rfl (by simp only [Region.wanted, yielded, zy, Option.bind_some]; decide) rfl ?_; (try simp only [Act.put, zz])) | (refine wpl_load HH 4 rfl rfl rfl (by simp only [Region.wanted, yielded, zy, Option.bind_some]; decide) rfl ?_; (try simp only [Act.put, zz])))) | ((with_reducible show zY (Op.binOp _ _ _ _ _)); (refine wpl_cmp (p := ?_) rfl rfl (by simp only [Region.wanted, yielded, zy, Option.bind_some]; decide) ?_ ?_ ?_; rotate_left; (focus (go_simp; with_reducible rfl)); all_goals (intro hq; (try (fail)); (try simp only [zw] at hq); (try simp only [Act.put, zz])))) | ((with_reducible show zW (Op.store _ _ _)); (refine wpl_store HH 0 rfl rfl rfl rfl rfl rfl rfl rfl ?_; clear HH; intro V HH; simp only [Act.eval, zx, Value.cells, putl, zC, zB] at HH; (try simp only [Act.put, zz]))) | ((with_reducible show zW (Op.alloc _)); refine wpl_alloc HH rfl rfl ?_; clear HH; intro b V HH; simp only [Act.eval, zx, Value.cells, putl, zC, zB] at HH; (try simp only [Act.put, zz])))
              all_goals (first | (go_ret; exact ⟨⟨_, rfl, _, rfl⟩, Hp.back (l := [_, _, _, _, _]) (r := [_]) HH (by intro e he; simp only [List.mem_singleton] at he; subst he; exact hGL.out) rfl⟩) | (exact ⟨⟨k + 1, by omega, by push_cast; rfl, HH.drop rfl⟩, by simp [intOf]; omega⟩))
          · have hk2 : ¬ (k : Int) < (L.length : Int) := by omega
            go_wp2_with (first | ((with_reducible show zW (Op.range 94 _)); (refine wpl_range HH 0 rfl rfl rfl rfl ?_); clear HH; intro ri V HH; (try simp only [Act.put, zz])) | ((with_reducible show zX (Op.binOp _ _ _ _ _)); (refine wpl_cmp (p := ?_) rfl rfl rfl ?_ ?_ ?_; rotate_left; (focus (go_simp; with_reducible rfl)); all_goals (intro hq; (try (contradiction)); (try simp only [zw] at hq); (try simp only [Act.put, zz])))))
            go_loopw [] (fun wr => ∃ seen : Array Nat, Hp w wr (⟨ri, .mapIter (some bi) c5 seen c5, true⟩ :: (Hp.lst HH).tail)) (fun wr => (mleft m5 (seenOf wr ri)).length)
            case atStart => exact ⟨#[], HH⟩
            case round =>
              obtain ⟨seen, HR2⟩ := hrel
              dsimp only [Hp.lst, List.tail] at HR2
              have hms : (mleft m5 (seenOf wr ri)).length = (mleft m5 seen).length := by rw [seenOf_at (HR2.get 0 rfl)]
              have HMS := Lib.hid hms
              clear hms
              have HH := HR2
              clear HR2
              have hk := ho5
              cases full
              all_goals
                go_wp2_with (first | ((with_reducible show zW (Op.next _ _)); refine wpl_next HH 0 1 hk rfl rfl rfl rfl rfl rfl ?_ ?_; intro hz; (try simp only [Act.put, zz]); rotate_left; intro e l1 l2 V hem e1 e2 HH2; clear HH; have HH := HH2; clear HH2; (try simp only [zC, zB] at HH); (try simp only [Act.put, zz]); cases hob : mget m4 e.p) | ((with_reducible show zW (Op.entry _)); (refine wpl_entry HH 0 1 e hk hem rfl rfl rfl rfl rfl ?_); (try simp only [Act.put, zz])) | (first | ((with_reducible show zY (Op.lookup 94 _ _ _)); refine wpl_lookN1 HH 3 e.p hob rfl rfl rfl rfl (by simp only [Region.wanted, yielded, zy, Option.bind_some]; decide) ?_; (try simp only [Act.put, zz])) | ((with_reducible show zY (Op.lookup 94 _ _ _)); refine wpl_lookS1 HH 3 e.p hob rfl rfl rfl rfl (by simp only [Region.wanted, yielded, zy, Option.bind_some]; decide) ?_; (try simp only [Act.put, zz]))) | ((with_reducible show zX (Op.load _ _)); (refine wpl_load HH 5 rfl rfl rfl rfl rfl ?_; (try simp only [Act.put, zz]))) | ((with_reducible show zY (Op.load _ _)); (refine wpl_load HH 0 rfl rfl rfl (by simp only [Region.wanted, yielded, zy, Option.bind_some]; decide) rfl ?_; (try simp only [Act.put, zz]))) | ((with_reducible show zY (Op.binOp _ _ _ _ _)); (refine wpl_cmp (p := ?_) rfl rfl (by simp only [Region.wanted, yielded, zy, Option.bind_some]; decide) ?_ ?_ ?_; rotate_left; (focus (go_simp; with_reducible rfl)); all_goals (intro hq; (try (contradiction)); (try simp only [zw] at hq); (try simp only [Act.put, zz])))) | ((with_reducible show zW (Op.store _ _ _)); (refine wpl_store HH 0 rfl rfl rfl rfl rfl rfl rfl rfl ?_; clear HH; intro V HH; simp only [Act.eval, zx, Value.cells, putl, zC, zB] at HH; (try simp only [Act.put, zz]))) | ((with_reducible show zW (Op.alloc _)); refine wpl_alloc HH rfl rfl ?_; clear HH; intro b V HH; simp only [Act.eval, zx, Value.cells, putl, zC, zB] at HH; (try simp only [Act.put, zz])))
              all_goals (first | (go_ret; exact ⟨⟨_, rfl, _, rfl⟩, Hp.back (l := [_, _, _, _, _]) (r := [_]) HH (by intro e he; simp only [List.mem_singleton] at he; subst he; exact hGL.out) rfl⟩) | (go_ret; exact ⟨⟨_, rfl, _, rfl⟩, Hp.back (l := [_, _, _, _, _, _]) (r := [_]) HH (by intro e he; simp only [List.mem_singleton] at he; subst he; exact hGL.out) rfl⟩) | (refine ⟨⟨seen.push e.born, HH.drop rfl⟩, ?_⟩; rw [seenOf_at (HH.get 1 rfl), HMS.out, e1, e2, List.length_append, List.length_append, List.length_cons]; omega))

end Go.Proofs.YtcbahkfbdlhabaaGreatDoor
namespace Go.Proofs.YtcbahkfbdlhabaaGreatDoor
set_option linter.unusedVariables false
set_option linter.unusedSimpArgs false
open Go.RowKit
attribute [local go_sem] index24_0 index24_1 field34_0 field34_1
attribute [local irreducible] wpList Code.wp wpB

/-- What trie.Right tells. -/
def RtF (s : Sp) (n sl : Nat) (L : List Nd) : Prop := soundB s = true ∧ s.n = 1 ∧ n ≤ 4611686018427387904 ∧ sl ≤ n ∧ (∀ x ∈ L, RB s x.p = true ∧ x.d ≤ sl) ∧ (L.map Nd.g).sum = n
def IsRt (s : Sp) (n sl : Nat) (L : List Nd) (v : Value) : Prop := ∃ b, v = .bool b ∧ (b = true → RtF s n sl L)
theorem IsRt.no {s : Sp} {n sl : Nat} {L : List Nd} : IsRt s n sl L (.bool false) := ⟨false, rfl, fun h => by cases h⟩

set_option maxRecDepth 100000 in
set_option maxHeartbeats 4000000 in
theorem right_no (w : World) {n sl : Nat} {s : Sp} {full : Bool} {a : Option Addr} {k c : Nat} (hn : s.n ≠ 1) : Calls Tryz.prog 140 #[tv s full n sl (.slice a k c)] w fun e w' => e = .returned (.bool false) ∧ Below w.heap.size w w' := by
  have HH := Hp.nil w
  have hd : decide (s.n = 1) = false := by simp [hn]
  go_enter Tryz.func140, Tryz.ntmps140
  go_wp2_with (first | ((with_reducible show zX (Op.load _ _)); (refine wpl_load HH 0 rfl rfl rfl rfl rfl ?_; (try simp only [Act.put, zz]))) | ((with_reducible show zX (Op.binOp _ _ _ _ _)); (refine wpl_cmp (p := ?_) rfl rfl rfl ?_ ?_ ?_; rotate_left; (focus (go_simp; with_reducible rfl)); all_goals (intro hq; (try (fail)); (try simp only [zw] at hq); (try simp only [Act.put, zz])))) | ((with_reducible show zY (Op.load _ _)); (refine wpl_load HH 0 rfl rfl rfl (by simp only [Region.wanted, yielded, zy, Option.bind_some]; decide) rfl ?_; (try simp only [Act.put, zz]))) | ((with_reducible show zW (Op.box _ _)); refine wpl_box HH rfl rfl rfl ?_; clear HH; intro b V HH; simp only [Act.eval, zx, Value.cells, putl, zC, zB] at HH; (try simp only [Act.put, zz])))
  all_goals (try (exfalso; simp [hn] at hq; done))
  all_goals (go_ret; exact ⟨rfl, HH.below rfl⟩)

set_option maxRecDepth 100000 in
set_option maxHeartbeats 4000000 in
theorem rt_walk (w : World) {g cap n sl : Nat} {s : Sp} {full : Bool} {L : List Nd} {js : List Value} (hg : w.heap[g]? = some (.cells (nrow L ++ js).toArray 176 (0, 0))) (hok : ∀ x ∈ L, x.p.ok) (hlen : L.length ≤ 1000000) (hnb : n < 18446744073709551616) (hgb : ∀ x ∈ L, x.g < 18446744073709551616) (hpos : ∀ p, RB s p = true → 1 ≤ (allP s p).length) :
    Calls Tryz.prog 140 #[(tv s full n sl (.slice (some ⟨g, 0, none⟩) L.length cap))] w fun e w' => (∃ v, e = .returned v ∧ IsRt s n sl L v) ∧ Below w.heap.size w w' := by
  have HH : Hp w w [⟨g, .cells (nrow L ++ js).toArray 176 (0, 0), false⟩] := Hp.start ⟨hg, trivial⟩ (by simp) rfl
  have hGL := Lib.hid hg
  clear hg
  by_cases hn : s.n = 1
  rotate_left
  · exact (right_no w hn).mono fun e w' h => ⟨⟨_, h.1, IsRt.no⟩, h.2⟩
  have HSND := sound_gives s
  have hN := Lib.hid hn
  clear hn
  cases hsd : soundB s <;> rw [hsd] at HSND
  all_goals
    go_enter Tryz.func140, Tryz.ntmps140
    go_wp2_with (first | (go_at_call 159; refine (inorder_walk _ (HH.get 1 rfl) hok hlen hnb hgb).mono ?_; rintro e V ⟨⟨v, rfl, b1, rfl, hb1⟩, hb⟩; replace HH := HH.next hb; clear hb; cases b1) | (go_at_call 160; refine (rooted_walk _ (HH.get 1 rfl) hok hlen (fun x hx => hpos _ ((hb1 (by trivial)).1 x hx).1)).mono ?_; rintro e V ⟨⟨v, rfl, b2, rfl⟩, hb⟩; replace HH := HH.next hb; clear hb; cases b2) | (go_at_call 23; (with_reducible refine ((HSND) _).mono ?_); rintro e V ⟨rfl, hb⟩; replace HH := HH.next hb; clear hb) | ((with_reducible show zX (Op.load _ _)); (refine wpl_load HH 0 rfl rfl rfl rfl rfl ?_; (try simp only [Act.put, zz]))) | ((with_reducible show zX (Op.binOp _ _ _ _ _)); (refine wpl_cmp (p := ?_) rfl rfl rfl ?_ ?_ ?_; rotate_left; (focus (go_simp; with_reducible rfl)); all_goals (intro hq; (try (fail)); (try simp only [zw] at hq); (try simp only [Act.put, zz])))) | ((with_reducible show zY (Op.load _ _)); (refine wpl_load HH 0 rfl rfl rfl (by simp only [Region.wanted, yielded, zy, Option.bind_some]; decide) rfl ?_; (try simp only [Act.put, zz]))) | ((with_reducible show zY (Op.binOp _ _ _ _ _)); (refine wpl_cmp (p := ?_) rfl rfl (by simp only [Region.wanted, yielded, zy, Option.bind_some]; decide) ?_ ?_ ?_; rotate_left; (focus (go_simp; with_reducible rfl)); all_goals (intro hq; (try (fail)); (try simp only [zw] at hq); (try simp only [Act.put, zz])))) | ((with_reducible show zW (Op.box _ _)); refine wpl_box HH rfl rfl rfl ?_; clear HH; intro b V HH; simp only [Act.eval, zx, Value.cells, putl, zC, zB] at HH; (try simp only [Act.put, zz])))
    all_goals (first | (go_ret; exact ⟨⟨_, rfl, IsRt.no⟩, Hp.back (l := [_]) (r := [_]) HH (by intro e he; simp only [List.mem_singleton] at he; subst he; exact hGL.out) rfl⟩) | (go_ret; exact ⟨⟨_, rfl, ⟨true, rfl, fun _ => ⟨hsd, hN.out, by omega, by omega, (hb1 (by trivial)).1, (hb1 (by trivial)).2⟩⟩⟩, Hp.back (l := [_]) (r := [_]) HH (by intro e he; simp only [List.mem_singleton] at he; subst he; exact hGL.out) rfl⟩))

/-- The map of a list of nodes, over the top. -/
def ofM (s : Sp) (L : List Nd) : List (Me (Nat × Nat)) × Nat := L.foldl (fun a x => (mputL a.1 a.2 x.p (x.g, x.d), mputC a.1 a.2 x.p)) ([⟨topX s, (0, 0), 0⟩], 1)
theorem ofM_snoc (s : Sp) (L : List Nd) (x : Nd) : ofM s (L ++ [x]) = (mputL (ofM s L).1 (ofM s L).2 x.p (x.g, x.d), mputC (ofM s L).1 (ofM s L).2 x.p) := by
  unfold ofM
  rw [List.foldl_append]
  rfl
theorem foldM_ok : ∀ (L : List Nd) (m : List (Me (Nat × Nat))) (c : Nat), MOk m c → MOk (L.foldl (fun a x => (mputL a.1 a.2 x.p (x.g, x.d), mputC a.1 a.2 x.p)) (m, c)).1 (L.foldl (fun a x => (mputL a.1 a.2 x.p (x.g, x.d), mputC a.1 a.2 x.p)) (m, c)).2
  | [], m, c, h => h
  | x :: r, m, c, h => foldM_ok r _ _ (h.put x.p _)
theorem ofM_ok (s : Sp) (L : List Nd) : MOk (ofM s L).1 (ofM s L).2 := foldM_ok L _ _ ⟨by simp, by simp, by simp⟩

set_option maxRecDepth 100000 in
set_option maxHeartbeats 4000000 in
theorem of_no (w : World) {n sl : Nat} {s : Sp} {full : Bool} {a : Option Addr} {k c : Nat} (hn : s.n ≠ 1) : Calls Tryz.prog 135 #[tv s full n sl (.slice a k c)] w fun e w' => e = .returned (.tuple #[.pointer none, .int .i64 3]) ∧ Below w.heap.size w w' := by
  have HH := Hp.nil w
  go_enter Tryz.func135, Tryz.ntmps135
  go_wp2_with (first | (go_at_call 140; (with_reducible refine ((fun w => right_no w hn) _).mono ?_); rintro e V ⟨rfl, hb⟩; replace HH := HH.next hb; clear hb) | ((with_reducible show zX (Op.load _ _)); (refine wpl_load HH 0 rfl rfl rfl rfl rfl ?_; (try simp only [Act.put, zz]))) | ((with_reducible show zW (Op.box _ _)); refine wpl_box HH rfl rfl rfl ?_; clear HH; intro b V HH; simp only [Act.eval, zx, Value.cells, putl, zC, zB] at HH; (try simp only [Act.put, zz])))
  all_goals (go_ret2; exact ⟨rfl, HH.below rfl⟩)

/-- What trie.Of yields. -/
def OfRes (w0 : World) (s : Sp) (full : Bool) (n sl : Nat) (L : List Nd) (g : Nat) (js : List Value) (l : List En) (v : Value) (w' : World) : Prop := (v = (.tuple #[.pointer none, .int .i64 3]) ∧ Hp w0 w' (⟨g, .cells (nrow L ++ js).toArray 176 (0, 0), true⟩ :: l)) ∨ (RtF s n sl L ∧ ∃ T bm, v = (.tuple #[.pointer (some ⟨T, 0, none⟩), .int .i64 0]) ∧ Hp w0 w' (TE T s full n sl bm :: ⟨bm, mp encG (ofM s L).1 (ofM s L).2, true⟩ :: ⟨g, .cells (nrow L ++ js).toArray 176 (0, 0), true⟩ :: l))

set_option maxRecDepth 100000 in
set_option maxHeartbeats 4000000 in
theorem of_walk {w0 w : World} {l : List En} {g cap n sl : Nat} {s : Sp} {full : Bool} {L : List Nd} {js : List Value} (HH : Hp w0 w (⟨g, .cells (nrow L ++ js).toArray 176 (0, 0), true⟩ :: l)) (hok : ∀ x ∈ L, x.p.ok) (hlen : L.length ≤ 1000000) (hnb : n < 18446744073709551616) (hgb : ∀ x ∈ L, x.g < 18446744073709551616) (hpos : ∀ p, RB s p = true → 1 ≤ (allP s p).length) :
    Calls Tryz.prog 135 #[(tv s full n sl (.slice (some ⟨g, 0, none⟩) L.length cap))] w fun e w' => ∃ v, e = .returned v ∧ OfRes w0 s full n sl L g js l v w' := by
  go_enter Tryz.func135, Tryz.ntmps135
  go_wp2_with (first | (go_at_call 140; refine (rt_walk _ (HH.get 1 rfl) hok hlen hnb hgb hpos).mono ?_; rintro e V ⟨⟨v, rfl, b1, rfl, hb1⟩, hb⟩; replace HH := HH.next hb; clear hb; cases b1) | (go_at_call 21; have hsd := (hb1 (by trivial)).1; have hn1 := (hb1 (by trivial)).2.1; refine (new_walk s full hsd hn1 HH).mono ?_; rintro e V ⟨T, bm, rfl, HH2⟩; clear HH; have HH := HH2; clear HH2; (try simp only [Act.put, zz])) | ((with_reducible show stepQ _ _ _ _ _ _ _); refine stepQ_on HH (by (exact fun V h => h.drop rfl)) ?_; clear HH) | ((with_reducible show wpS _ _ _ _ (_ :: _) _ _); refine wpS_step rfl (fun V HH => ?_)) | ((with_reducible show wpS _ _ _ _ _ _ _); refine wpS_nil ?_; intro V HH; (try dsimp only at HH); (try simp only [pick, zy]); (try simp only [Act.put, zz])) | ((with_reducible show zX (Op.load _ _)); (first | (refine wpl_load HH 0 rfl rfl rfl rfl rfl ?_; (try simp only [Act.put, zz])) | (refine wpl_load HH 2 rfl rfl rfl rfl rfl ?_; (try simp only [Act.put, zz])))) | ((with_reducible show zW (Op.store _ _ _)); (refine wpl_store HH 0 rfl rfl rfl rfl rfl rfl rfl rfl ?_; clear HH; intro V HH; simp only [Act.eval, zx, Value.cells, putl, zC, zB] at HH; (try simp only [Act.put, zz]))) | ((with_reducible show zW (Op.box _ _)); refine wpl_box HH rfl rfl rfl ?_; clear HH; intro b V HH; simp only [Act.eval, zx, Value.cells, putl, zC, zB] at HH; (try simp only [Act.put, zz])) | ((with_reducible show Code.wp _ (Code.region _ _ true) _ _ _); (refine wp_float_Hp (id := 4) [0, 1, 2, 3, 4, 5, 6, 7] [8] [9, 10, 11] _ (by kernel_rfl) HH (by exact fun V h => h.drop rfl) ?_; clear HH; (try dsimp only); (try simp only [pick, zy]); repeat' (first | ((with_reducible show wpB _ _ _ _ [] _); refine wpB_nil ?_; (try simp only [pick, zy]); (try simp only [Act.put, zz])) | (((with_reducible show zU _); (first | ((with_reducible show zT (Op.move _)); refine wpB_move rfl rfl rfl ?_) | ((with_reducible show zT (Op.load _ _)); (refine wpB_load 1 rfl rfl rfl rfl rfl ?_)) | (refine wpB_val (v := ?_) rfl ?_ ?_; rotate_left; (focus (intro w9 hS9; go_simp; all_goals (with_reducible rfl)))))); all_goals (try simp only [Act.put, zz, Act.eval, zx]))))))
  all_goals (try (go_ret2; exact ⟨_, rfl, .inl ⟨rfl, HH.drop rfl⟩⟩))
  have hRt := hb1 (by trivial)
  have HRT := Lib.hid hRt
  clear hRt hb1
  go_loopw [28] (fun i wr => ∃ k : Nat, k ≤ L.length ∧ i = .int .i64 k ∧ Hp w0 wr ((Hp.lst HH).take 1 ++ ⟨bm, mp encG (ofM s (L.take k)).1 (ofM s (L.take k)).2, true⟩ :: (Hp.lst HH).tail.tail)) (fun i _ => ((L.length : Int) - intOf i).toNat)
  case atStart => exact ⟨0, by omega, rfl, HH⟩
  case round =>
    obtain ⟨k, hk0, rfl, HR2⟩ := hrel
    dsimp only [Hp.lst, List.tail, List.take, List.cons_append, List.nil_append] at HR2
    have HH := HR2
    clear HR2
    by_cases hk : k < L.length
    · have hk2 : (k : Int) < (L.length : Int) := by omega
      have hss := ofM_snoc s (L.take k) L[k]
      rw [← List.take_succ_eq_append_getElem hk] at hss
      obtain ⟨mk, hmk⟩ : ∃ mk, mk = ofM s (L.take k) := ⟨_, rfl⟩
      rw [← hmk] at HH hss
      go_wp2_with (first | ((with_reducible show zW (Op.indexAddr 167 _ _)); refine wpl_valu rfl (run_idx167 (p := k) rfl rfl rfl (by omega) _) ?_; (try simp only [Act.put, zz])) | ((with_reducible show zW (Op.load 176 _)); (refine wpl_load HH 3 rfl rfl rfl rfl (nrow_get L k _ hk) ?_); (try simp only [Act.put, zz])) | ((with_reducible show zW (Op.mapUpdate 90 _ _ _)); (refine wpl_put (enc := encG) HH 2 L[k].p (L[k].g, L[k].d) rfl rfl rfl rfl rfl rfl ?_); clear HH; intro V HH; (try simp only [zC, zB] at HH); (try simp only [Act.put, zz])) | ((with_reducible show zX (Op.binOp _ _ _ _ _)); (refine wpl_cmp (p := ?_) rfl rfl rfl ?_ ?_ ?_; rotate_left; (focus (go_simp; with_reducible rfl)); all_goals (intro hq; (try (contradiction)); (try simp only [zw] at hq); (try simp only [Act.put, zz])))) | ((with_reducible show zW (Op.store _ _ _)); (refine wpl_store HH 0 rfl rfl rfl rfl rfl rfl rfl rfl ?_; clear HH; intro V HH; simp only [Act.eval, zx, Value.cells, putl, zC, zB] at HH; (try simp only [Act.put, zz]))) | ((with_reducible show zW (Op.alloc _)); refine wpl_alloc HH rfl rfl ?_; clear HH; intro b V HH; simp only [Act.eval, zx, Value.cells, putl, zC, zB] at HH; (try simp only [Act.put, zz])) | ((with_reducible show Code.wp _ (Code.region _ _ true) _ _ _); (refine wp_tail_Hp (id := 8) [0, 1, 2, 3, 4, 5, 6, 7, 8, 9, 10] [11] (by kernel_rfl) HH ?_; clear HH; (try dsimp only); (try simp only [pick, zy]); repeat' (first | ((with_reducible show wpB _ _ _ _ [] _); refine wpB_nil ?_; intro V HH; (try simp only [pick, zy]); (try simp only [Act.put, zz]); (try simp only [Value.cells] at HH)) | (((with_reducible show zU _); (first | ((with_reducible show zT (Op.move _)); refine wpB_move rfl rfl rfl ?_) | ((with_reducible show zT (Op.load _ _)); (first | refine wpB_load 0 rfl rfl rfl rfl rfl ?_ | refine wpB_load 1 rfl rfl rfl rfl rfl ?_)) | (refine wpB_val (v := ?_) rfl ?_ ?_; rotate_left; (focus (intro w9 hS9; go_simp; all_goals (with_reducible rfl)))))); all_goals (try simp only [Act.put, zz, Act.eval, zx]))))))
      refine ⟨⟨k + 1, by omega, by push_cast; rfl, ?_⟩, by simp [intOf]; omega⟩
      rw [hss]
      exact HH.drop rfl
    · have hk2 : ¬ (k : Int) < (L.length : Int) := by omega
      rw [List.take_of_length_le (by omega)] at HH
      go_wp2_with ((with_reducible show zX (Op.binOp _ _ _ _ _)); (refine wpl_cmp (p := ?_) rfl rfl rfl ?_ ?_ ?_; rotate_left; (focus (go_simp; with_reducible rfl)); all_goals (intro hq; (try (contradiction)); (try simp only [zw] at hq); (try simp only [Act.put, zz]))))
      go_ret2
      exact ⟨_, rfl, .inr ⟨HRT.out, _, _, rfl, HH.lose 2 rfl rfl⟩⟩

end Go.Proofs.YtcbahkfbdlhabaaGreatDoor
