/- A part of the proof that the law TopThree returns true for all arguments of bulk at most 1048576 (no other condition). Here: The heap's public functions. -/
import Derived.Test.YtcbahkfbdlhabaaGreatDoorK23
namespace Go.Proofs.YtcbahkfbdlhabaaGreatDoor
set_option linter.unusedVariables false
set_option linter.unusedSimpArgs false
open Go.RowKit
attribute [local go_sem] index24_0 index24_1 field34_0 field34_1
attribute [local irreducible] wpList Code.wp wpB

set_option maxRecDepth 100000 in
theorem run_neq80f {ρ : Operand → Value} {o : Oper} {x y : Operand} {ty : TypeId} (hop : o.op = .binOp .neq 80 x y ty) (hx : ρ x = .func (.func 26) #[] #[]) (hy : ρ y = .nilFunc) (w : World) : (execOp ρ o).run Tryz.prog w = .ok (.value (.bool true)) w := by
  unfold execOp
  simp only [hop, hx, hy]
  kernel_rfl
set_option maxRecDepth 100000 in
theorem run_eql80f {ρ : Operand → Value} {o : Oper} {x y : Operand} {ty : TypeId} (hop : o.op = .binOp .eql 80 x y ty) (hx : ρ x = .func (.func 26) #[] #[]) (hy : ρ y = .nilFunc) (w : World) : (execOp ρ o).run Tryz.prog w = .ok (.value (.bool false)) w := by
  unfold execOp
  simp only [hop, hx, hy]
  kernel_rfl

set_option maxRecDepth 100000 in
set_option maxHeartbeats 4000000 in
theorem hnew_walk {w0 w : World} {l : List En} (HH : Hp w0 w l) : Calls Tryz.prog 25 #[.func (.func 26) #[] #[]] w fun e w' => ∃ H bm, e = .returned (.pointer (some ⟨H, 0, none⟩)) ∧ Hp w0 w' (HB H bm (.slice none 0 0) :: ⟨bm, mp encI [] 0, true⟩ :: l) := by
  go_enter Tryz.func25, Tryz.ntmps25
  go_wp2_with (first | ((with_reducible show zX (Op.binOp BinOp.eql 80 _ _ _)); refine wpl_valu rfl (run_eql80f rfl rfl rfl _) ?_; (try simp only [Act.put, zz])) | ((with_reducible show zW (Op.makeMap 94 _)); refine wpl_mkmap (enc := encI) HH rfl rfl ?_; clear HH; intro bm V HH; (try simp only [Act.put, zz])) | ((with_reducible show zW (Op.box _ _)); refine wpl_box HH rfl rfl rfl ?_; clear HH; intro b V HH; simp only [Act.eval, zx, Value.cells, putl, zC, zB] at HH; (try simp only [Act.put, zz])))
  go_ret
  exact ⟨_, _, rfl, HH⟩

set_option maxRecDepth 100000 in
set_option maxHeartbeats 4000000 in
theorem hmade (w : World) {H bm : Nat} {v : Value} (hH : w.heap[H]? = some (.cells #[.func (.func 26) #[] #[], .map (some bm), v] 97 (0, 0))) : Calls Tryz.prog 211 #[.pointer (some ⟨H, 0, none⟩)] w fun e w' => e = .returned (.bool true) ∧ Below w.heap.size w w' := by
  have HH : Hp w w [⟨H, .cells #[.func (.func 26) #[] #[], .map (some bm), v] 97 (0, 0), false⟩] := Hp.start ⟨hH, trivial⟩ (by simp) rfl
  have hGL := Lib.hid hH
  clear hH
  go_enter Tryz.func211, Tryz.ntmps211
  go_wp2_with (first | ((with_reducible show zY (Op.binOp BinOp.neq 80 _ _ _)); refine wpl_valu (by simp only [Region.wanted, yielded, zy, Option.bind_some]; decide) (run_neq80f rfl rfl rfl _) ?_; (try simp only [Act.put, zz])) | ((with_reducible show zX (Op.binOp _ _ _ _ _)); (refine wpl_cmp (p := ?_) rfl rfl rfl ?_ ?_ ?_; rotate_left; (focus (go_simp; with_reducible rfl)); all_goals (intro hq; (try (contradiction)); (try simp only [zw] at hq); (try simp only [Act.put, zz])))) | ((with_reducible show zY (Op.load _ _)); (refine wpl_load HH 0 rfl rfl rfl (by simp only [Region.wanted, yielded, zy, Option.bind_some]; decide) rfl ?_; (try simp only [Act.put, zz]))))
  go_ret
  exact ⟨rfl, Hp.back (l := []) (r := [_]) HH (by intro e he; simp only [List.mem_singleton] at he; subst he; exact hGL.out) rfl⟩

set_option maxRecDepth 100000 in
set_option maxHeartbeats 4000000 in
theorem hlen_walk (w : World) {H bm n cap : Nat} {a : Option Addr} (hH : w.heap[H]? = some (.cells #[.func (.func 26) #[] #[], .map (some bm), .slice a n cap] 97 (0, 0))) : Calls Tryz.prog 208 #[.pointer (some ⟨H, 0, none⟩)] w fun e w' => e = .returned (.int .i64 (n : Int)) ∧ Below w.heap.size w w' := by
  have HH : Hp w w [⟨H, .cells #[.func (.func 26) #[] #[], .map (some bm), .slice a n cap] 97 (0, 0), false⟩] := Hp.start ⟨hH, trivial⟩ (by simp) rfl
  have hGL := Lib.hid hH
  clear hH
  go_enter Tryz.func208, Tryz.ntmps208
  go_wp2_with (first | (go_at_call 211; (refine (hmade _ (HH.get 0 rfl)).mono ?_); rintro e V ⟨rfl, hb⟩; replace HH := HH.next hb; clear hb; (try simp only [Act.put, zz])) | ((with_reducible show zX (Op.load _ _)); (refine wpl_load HH 0 rfl rfl rfl rfl rfl ?_; (try simp only [Act.put, zz]))))
  go_ret
  exact ⟨rfl, Hp.back (l := []) (r := [_]) HH (by intro e he; simp only [List.mem_singleton] at he; subst he; exact hGL.out) rfl⟩

set_option maxRecDepth 100000 in
set_option maxHeartbeats 4000000 in
theorem hget_no (w : World) {H bm : Nat} {v : Value} (hH : w.heap[H]? = some (.cells #[.func (.func 26) #[] #[], .map (some bm), v] 97 (0, 0))) {mm : List (Me Int)} {c : Nat} (hM : w.heap[bm]? = some (mp encI mm c)) (p : Px) (hp : mget mm p = none) : Calls Tryz.prog 206 #[.pointer (some ⟨H, 0, none⟩), p.v] w fun e w' => e = .returned (.tuple #[.int .u64 0, .bool false]) ∧ Below w.heap.size w w' := by
  have h1 : H ≠ bm := by
    rintro rfl
    rw [hH] at hM
    cases hM
  have HH : Hp w w [⟨H, .cells #[.func (.func 26) #[] #[], .map (some bm), v] 97 (0, 0), false⟩, ⟨bm, mp encI mm c, false⟩] := Hp.start ⟨hH, hM, trivial⟩ (by simp [h1]) rfl
  have hGL := Lib.hid hH
  have hML := Lib.hid hM
  clear hH hM
  go_enter Tryz.func206, Tryz.ntmps206
  go_wp2_with (first | (go_at_call 211; (refine (hmade _ (HH.get 1 rfl)).mono ?_); rintro e V ⟨rfl, hb⟩; replace HH := HH.next hb; clear hb; (try simp only [Act.put, zz])) | ((with_reducible show zW (Op.box _ _)); refine wpl_box HH rfl rfl rfl ?_; clear HH; intro b V HH; simp only [Act.eval, zx, Value.cells, putl, zC, zB] at HH; (try simp only [Act.put, zz])) | ((with_reducible show Code.wp _ (Code.region _ _ true) _ _ _); (refine wp_tail_Hp (id := 3) [0, 1, 2, 3, 4, 5, 6, 7, 8, 9, 10] [] (by kernel_rfl) HH ?_; clear HH; (try simp only [pick, zy]); repeat' (first | ((with_reducible show wpB _ _ _ _ [] _); refine wpB_nil ?_; intro V HH) | (((with_reducible show zU _); (first | ((with_reducible show zT (Op.move _)); refine wpB_move rfl rfl rfl ?_) | ((with_reducible show zT (Op.assign _)); refine wpB_assign rfl rfl rfl ?_) | ((with_reducible show zU (Op.lookup 94 _ _ _)); (refine wpB_lookN 2 p hp rfl rfl rfl rfl rfl ?_)) | ((with_reducible show zT (Op.load _ _)); (first | refine wpB_load 0 rfl rfl rfl rfl rfl ?_ | refine wpB_load 1 rfl rfl rfl rfl rfl ?_)) | (refine wpB_val (v := ?_) rfl ?_ ?_; rotate_left; (focus (intro w9 hS9; go_simp; all_goals (with_reducible rfl)))))); all_goals (try simp only [Act.put, zz, Act.eval, zx]))))))
  go_ret2
  exact ⟨rfl, Hp.back (l := [_]) (r := [_, _]) HH (by intro e he; simp only [List.mem_cons, List.not_mem_nil, or_false] at he; rcases he with rfl | rfl; exact hGL.out; exact hML.out) rfl⟩

set_option maxRecDepth 100000 in
set_option maxHeartbeats 4000000 in
theorem hget_yes (w : World) {H bm g n cap : Nat} {hs : List It} {js : List Value} (hH : w.heap[H]? = some (.cells #[.func (.func 26) #[] #[], .map (some bm), .slice (some ⟨g, 0, none⟩) n cap] 97 (0, 0))) {mm : List (Me Int)} {c : Nat} (hM : w.heap[bm]? = some (mp encI mm c)) (hG : w.heap[g]? = some (.cells (hrow hs ++ js).toArray 250 (0, 0))) (p : Px) (i : Nat) (hi : i < hs.length) (hn : n = hs.length) (hp : mget mm p = some (i : Int)) : Calls Tryz.prog 206 #[.pointer (some ⟨H, 0, none⟩), p.v] w fun e w' => e = .returned (.tuple #[.int .u64 (hs[i].w : Int), .bool true]) ∧ Below w.heap.size w w' := by
  have h1 : H ≠ bm := by
    rintro rfl
    rw [hH] at hM
    cases hM
  have h2 : H ≠ g := by
    rintro rfl
    rw [hH] at hG
    have h9 := congrArg (fun o : Option Obj => match o with | some (.cells _ t _) => t | _ => 0) hG
    cases h9
  have h3 : bm ≠ g := by
    rintro rfl
    rw [hM] at hG
    cases hG
  have HH : Hp w w [⟨H, .cells #[.func (.func 26) #[] #[], .map (some bm), .slice (some ⟨g, 0, none⟩) n cap] 97 (0, 0), false⟩, ⟨bm, mp encI mm c, false⟩, ⟨g, .cells (hrow hs ++ js).toArray 250 (0, 0), false⟩] := Hp.start ⟨hH, hM, hG, trivial⟩ (by simp [h1, h2, h3]) rfl
  have hHL := Lib.hid hH
  have hML := Lib.hid hM
  have hGL := Lib.hid hG
  clear hH hM hG
  have hin : i < n := by omega
  go_enter Tryz.func206, Tryz.ntmps206
  go_wp2_with (first | (go_at_call 211; (refine (hmade _ (HH.get 1 rfl)).mono ?_); rintro e V ⟨rfl, hb⟩; replace HH := HH.next hb; clear hb; (try simp only [Act.put, zz])) | ((with_reducible show zW (Op.indexAddr 95 _ _)); refine wpl_valu rfl (run_idx95 (p := i) rfl rfl rfl hin _) ?_; (try simp only [Act.put, zz])) | ((with_reducible show zW (Op.load 29 _)); (refine wpl_load HH 3 rfl rfl rfl rfl (hrow_getW hs i _ hi) ?_); (try simp only [Act.put, zz])) | ((with_reducible show zX (Op.load _ _)); (refine wpl_load HH 1 rfl rfl rfl rfl rfl ?_; (try simp only [Act.put, zz]))) | ((with_reducible show zW (Op.box _ _)); refine wpl_box HH rfl rfl rfl ?_; clear HH; intro b V HH; simp only [Act.eval, zx, Value.cells, putl, zC, zB] at HH; (try simp only [Act.put, zz])) | ((with_reducible show Code.wp _ (Code.region _ _ true) _ _ _); (refine wp_tail_Hp (id := 3) [0, 1, 2, 3, 4, 5, 6, 7, 8, 9, 10] [] (by kernel_rfl) HH ?_; clear HH; (try simp only [pick, zy]); repeat' (first | ((with_reducible show wpB _ _ _ _ [] _); refine wpB_nil ?_; intro V HH) | (((with_reducible show zU _); (first | ((with_reducible show zT (Op.move _)); refine wpB_move rfl rfl rfl ?_) | ((with_reducible show zT (Op.assign _)); refine wpB_assign rfl rfl rfl ?_) | ((with_reducible show zU (Op.lookup 94 _ _ _)); (refine wpB_lookS 2 p hp rfl rfl rfl rfl rfl ?_)) | ((with_reducible show zT (Op.load _ _)); (first | refine wpB_load 0 rfl rfl rfl rfl rfl ?_ | refine wpB_load 1 rfl rfl rfl rfl rfl ?_)) | (refine wpB_val (v := ?_) rfl ?_ ?_; rotate_left; (focus (intro w9 hS9; go_simp; all_goals (with_reducible rfl)))))); all_goals (try simp only [Act.put, zz, Act.eval, zx]))))))
  go_ret2
  exact ⟨rfl, Hp.back (l := [_]) (r := [_, _, _]) HH (by intro e he; simp only [List.mem_cons, List.not_mem_nil, or_false] at he; rcases he with rfl | rfl | rfl; exact hHL.out; exact hML.out; exact hGL.out) rfl⟩

set_option maxRecDepth 100000 in
set_option maxHeartbeats 4000000 in
theorem hraise_no {w0 w : World} {l : List En} {H bm c : Nat} {v : Value} {mm : List (Me Int)} (HH : Hp w0 w (HB H bm v :: ⟨bm, mp encI mm c, true⟩ :: l)) (p : Px) (wv : Nat) (hp : mget mm p = none) : Calls Tryz.prog 207 #[.pointer (some ⟨H, 0, none⟩), p.v, .int .u64 (wv : Int)] w fun e w' => e = .returned (.int .i64 4) ∧ Hp w0 w' (HB H bm v :: ⟨bm, mp encI mm c, true⟩ :: l) := by
  go_enter Tryz.func207, Tryz.ntmps207
  go_wp2_with (first | (go_at_call 211; (refine (hmade _ (HH.get 1 rfl)).mono ?_); rintro e V ⟨rfl, hb⟩; replace HH := HH.next hb; clear hb; (try simp only [Act.put, zz])) | ((with_reducible show zW (Op.box _ _)); refine wpl_box HH rfl rfl rfl ?_; clear HH; intro b V HH; simp only [Act.eval, zx, Value.cells, putl, zC, zB] at HH; (try simp only [Act.put, zz])) | ((with_reducible show Code.wp _ (Code.region _ _ true) _ _ _); (refine wp_tail_Hp (id := 3) [0, 1, 2, 3, 4, 5, 6, 7, 8, 9, 10] [] (by kernel_rfl) HH ?_; clear HH; (try simp only [pick, zy]); repeat' (first | ((with_reducible show wpB _ _ _ _ [] _); refine wpB_nil ?_; intro V HH) | (((with_reducible show zU _); (first | ((with_reducible show zT (Op.move _)); refine wpB_move rfl rfl rfl ?_) | ((with_reducible show zT (Op.assign _)); refine wpB_assign rfl rfl rfl ?_) | ((with_reducible show zU (Op.lookup 94 _ _ _)); (refine wpB_lookN 2 p hp rfl rfl rfl rfl rfl ?_)) | ((with_reducible show zT (Op.load _ _)); (first | refine wpB_load 0 rfl rfl rfl rfl rfl ?_ | refine wpB_load 1 rfl rfl rfl rfl rfl ?_)) | (refine wpB_val (v := ?_) rfl ?_ ?_; rotate_left; (focus (intro w9 hS9; go_simp; all_goals (with_reducible rfl)))))); all_goals (try simp only [Act.put, zz, Act.eval, zx]))))))
  go_ret
  exact ⟨rfl, HH.drop rfl⟩

/-- A heap with the items X, in some order. -/
def HRes (w0 : World) (X : List It) (H bm : Nat) (l : List En) (w' : World) : Prop := ∃ (hs' : List It) (mm' : List (Me Int)) (c' : Nat) (v : Value) (r : List En), hs'.Perm X ∧ HI hs' mm' c' ∧ SlR 250 13 true v hs'.length (hrow hs') r ∧ Hp w0 w' (HB H bm v :: ⟨bm, mp encI mm' c', true⟩ :: (r ++ l))
theorem slR_row {g n cap : Nat} {hs : List It} {js : List Value} (hn : hs.length = n) (h1 : (cap - n) * 13 ≤ js.length) (h2 : n ≤ cap) (h3 : cap ≤ maxLen) : SlR 250 13 true (.slice (some ⟨g, 0, none⟩) n cap) hs.length (hrow hs) [RW g hs js] := by
  subst hn
  exact ⟨hrow_len hs, .inr ⟨g, cap, js, rfl, rfl, h1, h2, h3⟩⟩

theorem HI.setW {hs : List It} {mm : List (Me Int)} {c : Nat} (h : HI hs mm c) {i : Nat} (hi : i < hs.length) (u : Nat) : HI (hs.set i ⟨hs[i].p, u⟩) mm c := by
  have e : ∀ (k : Nat) (hk : k < (hs.set i ⟨hs[i].p, u⟩).length), ((hs.set i ⟨hs[i].p, u⟩)[k]).p = (hs[k]'(by simpa using hk)).p := fun k hk => by
    by_cases h1 : k = i
    · subst h1
      rw [List.getElem_set_self]
    · rw [List.getElem_set_ne (by omega)]
  refine ⟨h.1, fun k hk => by rw [e]; exact h.2.1 k _, fun p hp => h.2.2 p fun x hx => ?_⟩
  obtain ⟨k, hk, rfl⟩ := List.getElem_of_mem hx
  have := hp _ (List.getElem_mem (by simpa using hk : k < (hs.set i ⟨hs[i].p, u⟩).length))
  rwa [e] at this
set_option maxRecDepth 100000 in
set_option maxHeartbeats 4000000 in
theorem hraise_yes {w0 w : World} {l : List En} {H bm g n cap c : Nat} {hs : List It} {mm : List (Me Int)} {js : List Value} (HH : Hp w0 w (HB H bm (.slice (some ⟨g, 0, none⟩) n cap) :: ⟨bm, mp encI mm c, true⟩ :: RW g hs js :: l)) (p : Px) (wv : Nat) (i : Nat) (hi : i < hs.length) (hp : mget mm p = some (i : Int)) (hn : n = hs.length) (hlen : hs.length ≤ 1000000) (hx1 : (cap - n) * 13 ≤ js.length) (hx2 : n ≤ cap) (hx3 : cap ≤ maxLen) (hI : HI hs mm c) (hw : hs[i].w + wv ≤ 9223372036854775807) : Calls Tryz.prog 207 #[.pointer (some ⟨H, 0, none⟩), p.v, .int .u64 (wv : Int)] w fun e w' => e = .returned (.int .i64 0) ∧ HRes w0 (hs.set i ⟨hs[i].p, hs[i].w + wv⟩) H bm l w' := by
  have hin : i < n := by omega
  have HIN := Lib.hid (hI.setW hi (hs[i].w + wv))
  clear hI
  have w1 : IntKind.u64.wrap (18446744073709551615 - (hs[i].w : Int)) = 18446744073709551615 - (hs[i].w : Int) := IntWalk.u64_in _ (by omega)
  have w2 : IntKind.u64.wrap ((hs[i].w : Int) + (wv : Int)) = ((hs[i].w + wv : Nat) : Int) := by rw [IntWalk.u64_in _ (by omega)]; push_cast; rfl
  have ht : decide ((wv : Int) > 18446744073709551615 - (hs[i].w : Int)) = false := decide_eq_false (by omega)
  go_enter Tryz.func207, Tryz.ntmps207
  go_wp2_with (first | (go_at_call 211; (refine (hmade _ (HH.get 1 rfl)).mono ?_); rintro e V ⟨rfl, hb⟩; replace HH := HH.next hb; clear hb; (try simp only [Act.put, zz])) | ((with_reducible show zW (Op.indexAddr 95 _ _)); refine wpl_valu rfl (run_idx95 (p := i) rfl rfl rfl hin _) ?_; (try simp only [Act.put, zz])) | ((with_reducible show zW (Op.load 29 _)); (refine wpl_load HH 3 rfl rfl rfl rfl (hrow_getW hs i _ hi) ?_); (try simp only [Act.put, zz])) | ((with_reducible show zW (Op.store 29 _ _)); (refine wpl_storeW HH 3 i (hs[i].w + wv) hi rfl rfl rfl rfl rfl ?_); clear HH; intro V HH; (try simp only [zC, zB] at HH); (try simp only [Act.put, zz])) | (go_at_call 212; have H9 := (((HH.front 3 rfl).front 3 rfl).front 3 rfl); (try simp only [List.eraseIdx] at H9); (with_reducible refine (hdown_walk H9 i (by simpa using hi) (by simpa using hn) (by simpa using hlen) HIN.out).mono ?_); clear H9; rintro e9 V ⟨hs2, mm2, c2, rfl, hpm2, hI2, HH2⟩; clear HH; have HH := HH2; clear HH2; (try simp only [Act.put, zz])) | ((with_reducible show zX (Op.load _ _)); (refine wpl_load HH 1 rfl rfl rfl rfl rfl ?_; (try simp only [Act.put, zz]))) | ((with_reducible show zX (Op.binOp _ _ _ _ _)); (refine wpl_cmp (p := ?_) rfl rfl rfl ?_ ?_ ?_; rotate_left; (focus (go_simp; with_reducible rfl)); all_goals (intro hq; (try (contradiction)); (try simp only [zw] at hq); (try simp only [Act.put, zz])))) | ((with_reducible show zW (Op.box _ _)); refine wpl_box HH rfl rfl rfl ?_; clear HH; intro b V HH; simp only [Act.eval, zx, Value.cells, putl, zC, zB] at HH; (try simp only [Act.put, zz])) | ((with_reducible show Code.wp _ (Code.region _ _ true) _ _ _); (refine wp_tail_Hp (id := 3) [0, 1, 2, 3, 4, 5, 6, 7, 8, 9, 10] [] (by kernel_rfl) HH ?_; clear HH; (try simp only [pick, zy]); repeat' (first | ((with_reducible show wpB _ _ _ _ [] _); refine wpB_nil ?_; intro V HH) | (((with_reducible show zU _); (first | ((with_reducible show zT (Op.move _)); refine wpB_move rfl rfl rfl ?_) | ((with_reducible show zT (Op.assign _)); refine wpB_assign rfl rfl rfl ?_) | ((with_reducible show zU (Op.lookup 94 _ _ _)); (refine wpB_lookS 2 p hp rfl rfl rfl rfl rfl ?_)) | ((with_reducible show zT (Op.load _ _)); (first | refine wpB_load 0 rfl rfl rfl rfl rfl ?_ | refine wpB_load 1 rfl rfl rfl rfl rfl ?_)) | (refine wpB_val (v := ?_) rfl ?_ ?_; rotate_left; (focus (intro w9 hS9; go_simp; all_goals (with_reducible rfl)))))); all_goals (try simp only [Act.put, zz, Act.eval, zx]))))))
  go_ret
  exact ⟨rfl, hs2, mm2, c2, _, [RW g hs2 js], hpm2, hI2, slR_row (by rw [hpm2.length_eq]; simp [hn]) hx1 hx2 hx3, HH.lose 3 rfl rfl⟩

theorem Hp.cut3 {w0 V : World} {a b c : En} {l r : List En} (h : Hp w0 V (a :: b :: c :: (l ++ r))) (ho : ∀ e ∈ r, e.own = true) : Hp w0 V (a :: b :: c :: l) :=
  (Hp.dropAll (r := r) (l := a :: b :: c :: l) (h.perm (by
    have h1 : (a :: b :: c :: (l ++ r)) = (a :: b :: c :: l) ++ r := rfl
    rw [h1]
    exact List.perm_append_comm)) ho)
theorem Hp.tuck {w0 V : World} {a b c d : En} {l : List En} (h : Hp w0 V (a :: b :: c :: (l ++ [d]))) : Hp w0 V (a :: b :: c :: d :: l) :=
  h.perm (((List.perm_append_comm (l₁ := l) (l₂ := [d])).cons c).cons b |>.cons a)
theorem HI.add {hs : List It} {mm : List (Me Int)} {c : Nat} (h : HI hs mm c) {x : It} (hx : mget mm x.p = none) : HI (hs ++ [x]) (mputL mm c x.p (hs.length : Int)) (mputC mm c x.p) := by
  refine ⟨h.1.put _ _, fun k hk => ?_, fun p hp => ?_⟩
  · rw [mget_put]
    by_cases h1 : k < hs.length
    · rw [List.getElem_append_left h1, h.2.1 k h1, if_neg]
      intro e
      have := h.2.1 k h1
      rw [e, hx] at this
      cases this
    · have h2 : k = hs.length := by
        rw [List.length_append] at hk
        simp at hk
        omega
      subst h2
      rw [List.getElem_append_right (Nat.le_refl _)]
      simp
  · rw [mget_put, if_neg (fun e => hp x (by simp) e.symm)]
    exact h.2.2 p fun y hy => hp y (by simp [hy])

set_option maxRecDepth 100000 in
set_option maxHeartbeats 4000000 in
theorem hadd_walk {w0 w : World} {l r : List En} {H bm c : Nat} {hs : List It} {mm : List (Me Int)} {v : Value} (HH : Hp w0 w (HB H bm v :: ⟨bm, mp encI mm c, true⟩ :: (l ++ r))) (HS : SlR 250 13 true v hs.length (hrow hs) r) (p : Px) (wv : Nat) (hp : mget mm p = none) (hlen : hs.length ≤ 900000) (hI : HI hs mm c) : Calls Tryz.prog 210 #[.pointer (some ⟨H, 0, none⟩), p.v, .int .u64 (wv : Int)] w fun e w' => e = .returned (.int .i64 0) ∧ HRes w0 (hs ++ [⟨p, wv⟩]) H bm l w' := by
  have HIN := Lib.hid (hI.add (x := ⟨p, wv⟩) hp)
  clear hI
  go_enter Tryz.func210, Tryz.ntmps210
  go_wp2_with (first | (go_at_call 211; (refine (hmade _ (HH.get 1 rfl)).mono ?_); rintro e V ⟨rfl, hb⟩; replace HH := HH.next hb; clear hb; (try simp only [Act.put, zz])) | ((with_reducible show zW (Op.buildSlice 95 1 _)); refine wpl_bs95 HH ⟨p, wv⟩ rfl rfl rfl ?_; clear HH; intro bn V HH; (try simp only [Act.put, zz])) | (at_builtin; refine wpl_append elt95 (l := _ :: _ :: _ :: l) HH HS rfl rfl rfl rfl rfl rfl (by omega) (by omega) ?_; clear HH; intro v2 r2 V HS2 HH; rw [← hrow_snoc] at HS2; obtain ⟨g, cap, js, rfl, rfl, hx1, hx2, hx3⟩ := HS2.some (by omega); (try simp only [List.cons_append] at HH); (try simp only [Act.put, zz])) | ((with_reducible show zW (Op.binOp BinOp.sub 3 _ _ _)); refine wpl_valu rfl (run_subN (a := (hs.length + 1)) (b := 1) (r := hs.length) rfl rfl rfl ⟨by omega, by omega⟩ rfl _) ?_; (try simp only [Act.put, zz])) | ((with_reducible show zW (Op.mapUpdate 94 _ _ _)); (refine wpl_put (enc := encI) HH 2 p (hs.length : Int) rfl rfl rfl rfl rfl rfl ?_); clear HH; intro V HH; (try simp only [zC, zB] at HH); (try simp only [Act.put, zz])) | (go_at_call 215; have H9 := ((((HH.tuck.front 3 rfl).front 3 rfl).front 3 rfl)); (try simp only [List.eraseIdx] at H9); (with_reducible refine (hup_walk H9 hs.length (by simp) (by simp) (by simp <;> omega) HIN.out).mono ?_); clear H9; rintro e9 V ⟨hs2, mm2, c2, rfl, hpm2, hI2, HH2⟩; clear HH; have HH := HH2; clear HH2; (try simp only [Act.put, zz])) | ((with_reducible show stepQ _ _ _ _ _ _ _); refine stepQ_on HH (by (first | exact fun V h => Hp.cut3 (h.drop rfl) HS.own | exact fun V h => Hp.cut3 h HS2.own)) ?_; clear HH) | ((with_reducible show wpS _ _ _ _ (_ :: _) _ _); refine wpS_step rfl (fun V HH => ?_)) | ((with_reducible show wpS _ _ _ _ _ _ _); refine wpS_nil ?_; intro V HH) | ((with_reducible show zX (Op.load _ _)); (refine wpl_load HH 1 rfl rfl rfl rfl rfl ?_; (try simp only [Act.put, zz]))) | ((with_reducible show zW (Op.store _ _ _)); (refine wpl_store HH 1 rfl rfl rfl rfl rfl rfl rfl rfl ?_; clear HH; intro V HH; simp only [Act.eval, zx, Value.cells, putl, zC, zB] at HH; (try simp only [Act.put, zz]))) | ((with_reducible show zW (Op.box _ _)); refine wpl_box HH rfl rfl rfl ?_; clear HH; intro b V HH; simp only [Act.eval, zx, Value.cells, putl, zC, zB] at HH; (try simp only [Act.put, zz])) | ((with_reducible show Code.wp _ (Code.region _ _ true) _ _ _); (first | (refine wp_tail_Hp (id := 3) [0, 1, 2, 3, 4, 5, 6, 7, 8, 9, 10] [] (by kernel_rfl) HH ?_; clear HH; (try simp only [pick, zy]); repeat' (first | ((with_reducible show wpB _ _ _ _ [] _); refine wpB_nil ?_; intro V HH) | (((with_reducible show zU _); (first | ((with_reducible show zT (Op.move _)); refine wpB_move rfl rfl rfl ?_) | ((with_reducible show zT (Op.assign _)); refine wpB_assign rfl rfl rfl ?_) | ((with_reducible show zU (Op.lookup 94 _ _ _)); (refine wpB_lookN 2 p hp rfl rfl rfl rfl rfl ?_)) | ((with_reducible show zT (Op.load _ _)); (first | refine wpB_load 0 rfl rfl rfl rfl rfl ?_ | refine wpB_load 1 rfl rfl rfl rfl rfl ?_)) | (refine wpB_val (v := ?_) rfl ?_ ?_; rotate_left; (focus (intro w9 hS9; go_simp; all_goals (with_reducible rfl)))))); all_goals (try simp only [Act.put, zz, Act.eval, zx])))) | (refine wp_float_Hp (id := 6) [0, 1, 2, 3, 4, 5, 6, 7] [8, 9] [10, 11, 12] (_ :: _ :: _ :: l) (by kernel_rfl) HH (by (first | exact fun V h => Hp.cut3 h HS.own | exact fun V h => Hp.cut3 h HS2.own)) ?_; clear HH; (try simp only [pick, zy]); repeat' (first | ((with_reducible show wpB _ _ _ _ [] _); refine wpB_nil ?_) | (((with_reducible show zU _); (first | ((with_reducible show zT (Op.move _)); refine wpB_move rfl rfl rfl ?_) | ((with_reducible show zT (Op.load _ _)); (first | refine wpB_load 0 rfl rfl rfl rfl rfl ?_ | refine wpB_load 1 rfl rfl rfl rfl rfl ?_)) | (refine wpB_val (v := ?_) rfl ?_ ?_; rotate_left; (focus (intro w9 hS9; go_simp; all_goals (with_reducible rfl)))))); all_goals (try simp only [Act.put, zz, Act.eval, zx])))) | (refine wp_tail_Hp (id := 8) [0, 1, 2, 3, 4, 5] [6] (by kernel_rfl) HH ?_; clear HH; (try simp only [pick, zy]); repeat' (first | ((with_reducible show wpB _ _ _ _ [] _); refine wpB_nil ?_; intro V HH) | (((with_reducible show zU _); (first | ((with_reducible show zT (Op.move _)); refine wpB_move rfl rfl rfl ?_) | ((with_reducible show zT (Op.load _ _)); (first | refine wpB_load 0 rfl rfl rfl rfl rfl ?_ | refine wpB_load 1 rfl rfl rfl rfl rfl ?_)) | (refine wpB_val (v := ?_) rfl ?_ ?_; rotate_left; (focus (intro w9 hS9; go_simp; all_goals (with_reducible rfl)))))); all_goals (try simp only [Act.put, zz, Act.eval, zx])))))))
  go_ret
  exact ⟨rfl, hs2, mm2, c2, _, [RW g hs2 js], hpm2, hI2, slR_row (by rw [hpm2.length_eq]; simp) hx1 hx2 hx3, HH.lose 3 rfl rfl⟩

set_option maxRecDepth 100000 in
set_option maxHeartbeats 4000000 in
theorem hleast_walk {w0 w : World} {l : List En} {H bm g n cap c : Nat} {hs : List It} {mm : List (Me Int)} {js : List Value} (HH : Hp w0 w (HB H bm (.slice (some ⟨g, 0, none⟩) n cap) :: ⟨bm, mp encI mm c, true⟩ :: RW g hs js :: l)) (hi : 0 < hs.length) (hn : n = hs.length) : Calls Tryz.prog 213 #[.pointer (some ⟨H, 0, none⟩)] w fun e w' => e = .returned (.tuple #[hs[0].p.v, .int .u64 (hs[0].w : Int), .bool true]) ∧ Hp w0 w' (HB H bm (.slice (some ⟨g, 0, none⟩) n cap) :: ⟨bm, mp encI mm c, true⟩ :: RW g hs js :: l) := by
  have hin : 0 < n := by omega
  have hd : decide ((n : Int) = 0) = false := decide_eq_false (by omega)
  go_enter Tryz.func213, Tryz.ntmps213
  go_wp2_with (first | (go_at_call 211; (refine (hmade _ (HH.get 2 rfl)).mono ?_); rintro e V ⟨rfl, hb⟩; replace HH := HH.next hb; clear hb; (try simp only [Act.put, zz])) | ((with_reducible show stepQ _ _ _ _ _ _ _); refine stepQ_on HH (by (exact fun V h => (h.drop rfl).drop rfl)) ?_; clear HH) | ((with_reducible show wpS _ _ _ _ (_ :: _) _ _); refine wpS_step rfl (fun V HH => ?_)) | ((with_reducible show wpS _ _ _ _ _ _ _); refine wpS_nil ?_; intro V HH) | ((with_reducible show zX (Op.load _ _)); (refine wpl_load HH 0 rfl rfl rfl rfl rfl ?_; (try simp only [Act.put, zz]))) | ((with_reducible show zY (Op.load _ _)); (refine wpl_load HH 2 rfl rfl rfl (by simp only [Region.wanted, yielded, zy, Option.bind_some]; decide) rfl ?_; (try simp only [Act.put, zz]))) | ((with_reducible show zY (Op.binOp _ _ _ _ _)); (refine wpl_cmp (p := ?_) rfl rfl (by simp only [Region.wanted, yielded, zy, Option.bind_some]; decide) ?_ ?_ ?_; rotate_left; (focus (go_simp; with_reducible rfl)); all_goals (intro hq; (try simp only [Act.put, zz])))) | ((with_reducible show zW (Op.store _ _ _)); (refine wpl_store HH 1 rfl rfl rfl rfl rfl rfl rfl rfl ?_; clear HH; intro V HH; simp only [Act.eval, zx, Value.cells, putl, zC, zB] at HH; (try simp only [Act.put, zz]))) | ((with_reducible show zW (Op.alloc _)); refine wpl_alloc HH rfl rfl ?_; clear HH; intro b V HH; simp only [Act.eval, zx, Value.cells, putl, zC, zB] at HH; (try simp only [Act.put, zz])) | ((with_reducible show Code.wp _ (Code.region _ _ true) _ _ _); (refine wp_float_Hp (id := 4) [0, 1, 2, 3, 4, 5, 6, 7, 8, 9, 10, 11, 12, 13] [14] [15, 16] (HB H bm (.slice (some ⟨g, 0, none⟩) n cap) :: ⟨bm, mp encI mm c, true⟩ :: RW g hs js :: l) (by kernel_rfl) HH (by (exact fun V h => (h.drop rfl).drop rfl)) ?_; clear HH; (try simp only [pick, zy]); repeat' (first | ((with_reducible show wpB _ _ _ _ [] _); refine wpB_nil ?_) | (((with_reducible show zU _); (first | ((with_reducible show zT (Op.move _)); refine wpB_move rfl rfl rfl ?_) | ((with_reducible show zU (Op.indexAddr 95 _ _)); refine wpB_val rfl (fun V _ => run_idx95 (p := 0) rfl rfl rfl hin V) ?_) | ((with_reducible show zU (Op.load 34 _)); refine wpB_load 2 rfl rfl rfl rfl (hrow_getP hs 0 _ hi) ?_) | ((with_reducible show zU (Op.load 29 _)); refine wpB_load 2 rfl rfl rfl rfl (hrow_getW hs 0 _ hi) ?_) | ((with_reducible show zT (Op.load _ _)); (refine wpB_load 0 rfl rfl rfl rfl rfl ?_)) | (refine wpB_val (v := ?_) rfl ?_ ?_; rotate_left; (focus (intro w9 hS9; go_simp; all_goals (with_reducible rfl)))))); all_goals (try simp only [Act.put, zz, Act.eval, zx]))))))
  · rw [beq_iff_eq] at hq
    omega
  · (refine bodyPost_ret (results_ctt rfl HH 1 rfl rfl rfl) rfl ?_)
    exact ⟨rfl, (HH.drop rfl).drop rfl⟩

theorem HI.drop {hs : List It} {mm : List (Me Int)} {c : Nat} {A : List It} {x : It} (h : HI hs mm c) (hA : hs = A ++ [x]) : HI A (mdel mm x.p) c := by
  subst hA
  have hlen : ∀ k, k < A.length → k < (A ++ [x]).length := fun k hk => by simp; omega
  have hlast : (A ++ [x])[A.length]'(by simp) = x := by simp
  have hk : ∀ (k : Nat) (hk : k < A.length), A[k].p ≠ x.p := fun k hk e => by
    have := h.inj (hlen k hk) (by simp : A.length < (A ++ [x]).length) (by rw [List.getElem_append_left hk, hlast, e])
    omega
  refine ⟨h.1.del _, fun k hk9 => ?_, fun p hp => ?_⟩
  · rw [mget_del h.1, if_neg (hk k hk9)]
    have := h.2.1 k (hlen k hk9)
    rwa [List.getElem_append_left hk9] at this
  · rw [mget_del h.1]
    by_cases e : p = x.p
    · rw [if_pos e]
    · rw [if_neg e]
      exact h.2.2 p fun y hy => by
        rcases List.mem_append.1 hy with hy | hy
        · exact hp y hy
        · simp only [List.mem_singleton] at hy
          subst hy
          exact fun e2 => e e2.symm
set_option maxRecDepth 100000 in
theorem run_slice95 {ρ : Operand → Value} {o : Oper} {x y : Operand} {g n cap j : Nat} (hop : o.op = .slice 95 x none (some y) none) (hx : ρ x = .slice (some ⟨g, 0, none⟩) n cap) (hy : ρ y = .int .i64 (j : Int)) (h1 : j ≤ n) (h2 : n ≤ cap) (hc : 0 < cap) (w : World) : (execOp ρ o).run Tryz.prog w = .ok (.value (.slice (some ⟨g, 0, none⟩) j cap)) w := by
  unfold execOp
  simp only [hop, Option.map_some, Option.map_none, hx, hy]
  have h3 : ¬ (j : Int) < 0 := by omega
  have h4 : (j : Int) ≤ (cap : Int) := by omega
  have h5 : j ≤ cap := by omega
  have h6 : ¬ cap = 0 := by omega
  have h7 : ¬ cap < j := by omega
  go_simp
  all_goals skip

theorem last_swap (hs : List It) (i j : Nat) (hi : i < hs.length) (hj : j < hs.length) (h : j + 1 = hs.length) : ∃ A, (hs.set i hs[j]).set j hs[i] = A ++ [hs[i]] ∧ A.length = j := by
  refine ⟨((hs.set i hs[j]).set j hs[i]).take j, ?_, by simp; omega⟩
  have h1 : j < ((hs.set i hs[j]).set j hs[i]).length := by simpa using hj
  have h2 := it_split ((hs.set i hs[j]).set j hs[i]) j h1
  rw [List.getElem_set_self, List.drop_of_length_le (by simp <;> omega)] at h2
  exact h2
theorem rw_snoc (g : Nat) (A : List It) (x : It) (js : List Value) : RW g (A ++ [x]) js = RW g A (icells x ++ js) := by
  show (⟨g, .cells (hrow (A ++ [x]) ++ js).toArray 250 (0, 0), true⟩ : En) = ⟨g, .cells (hrow A ++ (icells x ++ js)).toArray 250 (0, 0), true⟩
  rw [hrow_snoc, List.append_assoc]
/-- A heap without an item. -/
def HDrop (w0 : World) (hs : List It) (x : It) (H bm : Nat) (l : List En) (w' : World) : Prop := ∃ A : List It, (A ++ [x]).Perm hs ∧ HRes w0 A H bm l w'

set_option maxRecDepth 100000 in
set_option maxHeartbeats 4000000 in
theorem hdrop_walk {w0 w : World} {l : List En} {H bm g n cap c : Nat} {hs : List It} {mm : List (Me Int)} {js : List Value} (HH : Hp w0 w (HB H bm (.slice (some ⟨g, 0, none⟩) n cap) :: ⟨bm, mp encI mm c, true⟩ :: RW g hs js :: l)) (p : Px) (i : Nat) (hi : i < hs.length) (hpi : hs[i].p = p) (hn : n = hs.length) (hlen : hs.length ≤ 1000000) (hx1 : (cap - n) * 13 ≤ js.length) (hx2 : n ≤ cap) (hx3 : cap ≤ maxLen) (hI : HI hs mm c) : Calls Tryz.prog 214 #[.pointer (some ⟨H, 0, none⟩), p.v] w fun e w' => e = .returned (.int .i64 0) ∧ HDrop w0 hs hs[i] H bm l w' := by
  have hp : mget mm p = some (i : Int) := by rw [← hpi]; exact hI.2.1 i hi
  subst hpi
  subst hn
  have hin : i < hs.length := hi
  obtain ⟨j, hj0⟩ : ∃ j, hs.length - 1 = j := ⟨_, rfl⟩
  have hj : j < hs.length := by omega
  have hj1 : j + 1 = hs.length := by omega
  have hx4 : (cap - j) * 13 ≤ js.length + 13 := by omega
  have HIN := Lib.hid hI
  clear hI
  go_enter Tryz.func214, Tryz.ntmps214
  go_wp2_with (first | (go_at_call 211; (refine (hmade _ (HH.get 1 rfl)).mono ?_); rintro e V ⟨rfl, hb⟩; replace HH := HH.next hb; clear hb; (try simp only [Act.put, zz])) | ((with_reducible show zW (Op.binOp BinOp.sub 3 _ _ _)); refine wpl_valu rfl (run_subN (a := hs.length) (b := 1) (r := j) rfl rfl rfl ⟨by omega, by omega⟩ hj0 _) ?_; (try simp only [Act.put, zz])) | (go_at_call 217; have H9 := (((HH.front 3 rfl).front 3 rfl).front 3 rfl); simp only [List.eraseIdx] at H9; (with_reducible refine (hswap_walk H9 i j hi hj rfl HIN.out).mono ?_); clear H9; rintro e9 V ⟨hs2, mm2, c2, rfl, hpm2, hse, hI2, HH2⟩; clear HH; have HH := HH2; clear HH2; obtain ⟨A, hA, hAl⟩ := last_swap hs i j hi hj hj1; rw [hA] at hse; subst hse; rw [rw_snoc] at HH; have HI3 := Lib.hid (hI2.drop rfl); clear hI2; have HPM := Lib.hid hpm2; clear hpm2; clear hA; (try simp only [Act.put, zz])) | ((with_reducible show zW (Op.slice 95 _ _ _ _)); refine wpl_valu rfl (run_slice95 (j := j) rfl rfl rfl (by omega) (by omega) (by omega) _) ?_; (try simp only [Act.put, zz])) | ((with_reducible show zW (Op.call _)); (refine wpl_del (enc := encI) HH 1 hs[i].p rfl rfl rfl rfl rfl ?_); clear HH; intro V HH; (try simp only [zC, zB] at HH); (try simp only [Act.put, zz])) | (go_at_call 215; have H9 := HH; (with_reducible refine (hup_walk H9 i (by omega) (by omega) (by omega) HI3.out).mono ?_); clear H9; rintro e9 V ⟨hs2, mm2, c2, rfl, hpm2, hI2, HH2⟩; clear HH; have HH := HH2; clear HH2; (try simp only [Act.put, zz])) | (go_at_call 212; have H9 := HH; (with_reducible refine (hdown_walk H9 i (by rw [hpm2.length_eq]; omega) (by rw [hpm2.length_eq]; omega) (by rw [hpm2.length_eq]; omega) hI2).mono ?_); clear H9; rintro e9 V ⟨hs3, mm3, c3, rfl, hpm3, hI3, HH2⟩; clear HH; have HH := HH2; clear HH2; (try simp only [Act.put, zz])) | ((with_reducible show zX (Op.load _ _)); (first | (refine wpl_load HH 0 rfl rfl rfl rfl rfl ?_; (try simp only [Act.put, zz])) | (refine wpl_load HH 1 rfl rfl rfl rfl rfl ?_; (try simp only [Act.put, zz])))) | ((with_reducible show zX (Op.binOp _ _ _ _ _)); (refine wpl_cmp (p := ?_) rfl rfl rfl ?_ ?_ ?_; rotate_left; (focus (go_simp; with_reducible rfl)); all_goals (intro hq; (try simp only [zw] at hq); (try simp only [Act.put, zz])))) | ((with_reducible show zW (Op.store _ _ _)); (refine wpl_store HH 0 rfl rfl rfl rfl rfl rfl rfl rfl ?_; clear HH; intro V HH; simp only [Act.eval, zx, Value.cells, putl, zC, zB] at HH; (try simp only [Act.put, zz]))) | ((with_reducible show zW (Op.box _ _)); refine wpl_box HH rfl rfl rfl ?_; clear HH; intro b V HH; simp only [Act.eval, zx, Value.cells, putl, zC, zB] at HH; (try simp only [Act.put, zz])) | ((with_reducible show Code.wp _ (Code.region _ _ true) _ _ _); (first | (refine wp_tail_Hp (id := 3) [0, 1, 2, 3, 4, 5, 6, 7, 8, 9, 10] [] (by kernel_rfl) HH ?_; clear HH; (try simp only [pick, zy]); repeat' (first | ((with_reducible show wpB _ _ _ _ [] _); refine wpB_nil ?_; intro V HH) | (((with_reducible show zU _); (first | ((with_reducible show zT (Op.move _)); refine wpB_move rfl rfl rfl ?_) | ((with_reducible show zT (Op.assign _)); refine wpB_assign rfl rfl rfl ?_) | ((with_reducible show zU (Op.lookup 94 _ _ _)); (refine wpB_lookS 2 hs[i].p hp rfl rfl rfl rfl rfl ?_)) | ((with_reducible show zT (Op.load _ _)); (first | refine wpB_load 0 rfl rfl rfl rfl rfl ?_ | refine wpB_load 1 rfl rfl rfl rfl rfl ?_)) | (refine wpB_val (v := ?_) rfl ?_ ?_; rotate_left; (focus (intro w9 hS9; go_simp; all_goals (with_reducible rfl)))))); all_goals (try simp only [Act.put, zz, Act.eval, zx])))) | (refine wp_tail_Hp (id := 9) [0, 1, 2, 3, 4] [5] (by kernel_rfl) HH ?_; clear HH; (try simp only [pick, zy]); repeat' (first | ((with_reducible show wpB _ _ _ _ [] _); refine wpB_nil ?_; intro V HH) | (((with_reducible show zU _); (first | ((with_reducible show zT (Op.move _)); refine wpB_move rfl rfl rfl ?_) | ((with_reducible show zT (Op.load _ _)); (first | refine wpB_load 0 rfl rfl rfl rfl rfl ?_ | refine wpB_load 3 rfl rfl rfl rfl rfl ?_)) | (refine wpB_val (v := ?_) rfl ?_ ?_; rotate_left; (focus (intro w9 hS9; go_simp; all_goals (with_reducible rfl)))))); all_goals (try simp only [Act.put, zz, Act.eval, zx])))))))
  · go_ret
    exact ⟨rfl, A, HPM.out, hs3, mm3, c3, _, [RW g hs3 (icells hs[i] ++ js)], hpm3.trans hpm2, hI3, slR_row (by rw [hpm3.length_eq, hpm2.length_eq]; exact hAl) (by rw [List.length_append]; show _ ≤ 13 + _; omega) (by omega) hx3, HH.lose 3 rfl rfl⟩
  · go_ret
    exact ⟨rfl, A, HPM.out, A, _, _, _, [RW g A (icells hs[i] ++ js)], List.Perm.refl _, HI3.out, slR_row hAl (by rw [List.length_append]; show _ ≤ 13 + _; omega) (by omega) hx3, HH.lose 3 rfl rfl⟩

end Go.Proofs.YtcbahkfbdlhabaaGreatDoor
