/- A part of the proof that the law TopThree returns true for all arguments of bulk at most 1048576 (no other condition). Here: leaf14, alive14. The row of weights; the document's Weight. The law: the walk of TopThree. -/
import Derived.Test.YtcbahkfbdlhabaaGreatDoorK29
import Derived.Test.YtcbahkfbdlhabaaGreatDoorK17
namespace Go.Proofs.YtcbahkfbdlhabaaGreatDoor
set_option linter.unusedVariables false
set_option linter.unusedSimpArgs false
open Go.RowKit
attribute [local go_sem] index24_0 index24_1 field34_0 field34_1
attribute [local irreducible] wpList Code.wp wpB

set_option maxRecDepth 100000 in
set_option maxHeartbeats 4000000 in
theorem leaf14_walk  (w : World) : Calls Tryz.prog 14 #[.int .u64 1] w fun e w' => e = .returned (.agg #[.int .i64 0, .int .i64 0, .int .i64 1, .int .i64 32, .int .u64 4294967296, .int .u64 0, .string ⟨#[]⟩, .int .i64 0, .int .i64 0, .int .u64 0, .int .u64 0, .string ⟨#[]⟩]) ∧ Below w.heap.size w w' := by
  have HH := Hp.nil w
  go_enter Tryz.func14, Tryz.ntmps14
  go_wp2_with (first | ((with_reducible show zW (Op.store _ _ _)); (refine wpl_store HH 0 rfl rfl rfl rfl rfl rfl rfl rfl ?_; clear HH; intro V HH; simp only [Act.eval, zx, Value.cells, putl, zC, zB] at HH; (try simp only [Act.put, zz]))) | ((with_reducible show zW (Op.alloc _)); refine wpl_alloc HH rfl rfl ?_; clear HH; intro b V HH; simp only [Act.eval, zx, Value.cells, putl, zC, zB] at HH; (try simp only [Act.put, zz])))
  all_goals (((refine bodyPost_ret (results_c rfl HH 0 rfl rfl rfl) rfl ⟨?_, HH.below rfl⟩); (rfl)))
theorem leaf14_gives : Gives 14 #[.int .u64 1] p14.v := fun w => leaf14_walk w

set_option maxRecDepth 100000 in
set_option maxHeartbeats 4000000 in
theorem alive14_walk (w : World) : Calls Tryz.prog 5 #[] w fun e w' => e = .returned (.bool true) ∧ Below w.heap.size w w' := by
  have HH := Hp.nil w
  go_enter Tryz.func5, Tryz.ntmps5
  go_wp2_with (first | (go_at_call 4; (with_reducible refine (new14 HH).mono ?_); rintro e V ⟨X, E, rfl, hA, HH2⟩; clear HH; have HH := HH2; clear HH2; (try simp only [Act.put, zz])) | (go_at_call 6; (with_reducible refine (ins14 hA HH).mono ?_); rintro e V ⟨E2, rfl, hI, HH2⟩; clear HH; have HH := HH2; clear HH2; (try simp only [Act.put, zz])) | (go_at_call 7; (with_reducible refine (low14 hI HH).mono ?_); rintro e V ⟨rfl, HH2⟩; clear HH; have HH := HH2; clear HH2; (try simp only [Act.put, zz])) | (go_at_call 15; (with_reducible refine (tot14 hI HH).mono ?_); rintro e V ⟨rfl, HH2⟩; clear HH; have HH := HH2; clear HH2; (try simp only [Act.put, zz])) | (go_at_call 14; (with_reducible refine ((leaf14_gives) _).mono ?_); rintro e V ⟨rfl, hb⟩; replace HH := HH.next hb; clear hb) | ((with_reducible show zX (Op.load _ _)); (refine wpl_load HH 0 rfl rfl rfl rfl rfl ?_; (try simp only [Act.put, zz]))) | ((with_reducible show zX (Op.binOp _ _ _ _ _)); (refine wpl_cmp (p := ?_) rfl rfl rfl ?_ ?_ ?_; rotate_left; (focus (go_simp; with_reducible rfl)); all_goals (intro hq; (try (contradiction)); (try simp only [zw] at hq); (try simp only [Act.put, zz])))) | ((with_reducible show zY (Op.binOp _ _ _ _ _)); (refine wpl_cmp (p := ?_) rfl rfl (by simp only [Region.wanted, yielded, zy, Option.bind_some]; decide) ?_ ?_ ?_; rotate_left; (focus (go_simp; with_reducible rfl)); all_goals (intro hq; (try (contradiction)); (try simp only [zw] at hq); (try simp only [Act.put, zz])))) | ((with_reducible show zW (Op.store _ _ _)); (refine wpl_store HH 0 rfl rfl rfl rfl rfl rfl rfl rfl ?_; clear HH; intro V HH; simp only [Act.eval, zx, Value.cells, putl, zC, zB] at HH; (try simp only [Act.put, zz]))) | ((with_reducible show zW (Op.alloc _)); refine wpl_alloc HH rfl rfl ?_; clear HH; intro b V HH; simp only [Act.eval, zx, Value.cells, putl, zC, zB] at HH; (try simp only [Act.put, zz])))
  go_ret
  exact ⟨rfl, HH.below_at fun e he => by
    rcases List.mem_append.1 he with he | he
    · exact .inl (hI.own e he)
    · rw [List.mem_singleton.1 he]
      exact .inl rfl⟩
theorem alive14_gives : Gives 5 #[] (.bool true) := fun w => alive14_walk w

end Go.Proofs.YtcbahkfbdlhabaaGreatDoor
namespace Go.Proofs.YtcbahkfbdlhabaaGreatDoor
set_option linter.unusedVariables false
set_option linter.unusedSimpArgs false
open Go.RowKit
attribute [local go_sem] index24_0 index24_1 field34_0 field34_1
attribute [local irreducible] wpList Code.wp wpB

/-- A load of several cells, of the cells one by one. -/
theorem run_load_w {T n : Nat} (hs : Shp T true n) {W : World} {b o : Nat} {cs : List Value} (hl : cs.length = n) (h : ∀ k v, cs[k]? = some v → W.cell? ⟨b, o + k, none⟩ = some v) : (Instr.loadAt T (.pointer (some ⟨b, o, none⟩))).run Tryz.prog W = .ok (.agg cs.toArray) W := by
  have hz := hs.sizeOf W
  have ha := hs.agg W
  simp only [Instr.loadAt, Instr.sureAddr, Sem.run_bind, Sem.run_pure, Result.andThen_ok]
  have hl2 : (loadCells ⟨b, o, none⟩ cs.length).run Tryz.prog W = .ok cs.toArray W :=
    run_loadCells_list (P := Tryz.prog) W ⟨b, o, none⟩ _ (fun j v hj => by
      rw [Addr.add_mid]
      exact h j v hj)
  rw [hl] at hl2
  simp [loadVar, Sem.run_bind, ha, hz, hl2]
theorem run_load_w1 {T : Nat} (hs : Shp T false 1) {W : World} {b o : Nat} {v : Value} (h : W.cell? ⟨b, o, none⟩ = some v) : (Instr.loadAt T (.pointer (some ⟨b, o, none⟩))).run Tryz.prog W = .ok v W := by
  have ha := hs.agg W
  simp only [Instr.loadAt, Instr.sureAddr, Sem.run_bind, Sem.run_pure, Result.andThen_ok]
  simp [loadVar, Sem.run_bind, ha, h]
section walk
variable {ops : Array Oper} {rest : List Oper} {o : Oper} {a : Act} {Q : Exit → Act → World → Prop} {w0 W : World} {l : List En} {T : TypeId} {x y : Operand} {agg own : Bool} {n : Nat} {b off : Nat} {c : List Value} {t : TypeId} {v : Value}
theorem wpl_loadV (hop : o.op = .load T x) {u : Value} (hx : a.eval x = u) (hw : Region.wanted o (yielded ops a.tmps) = true)
    (hv : (Instr.loadAt T u).run Tryz.prog W = .ok v W) (h : wpList Tryz.prog ops Q rest (a.put o.dst v) W) : wpList Tryz.prog ops Q (o :: rest) a W :=
  wpList_on hw fun K hK => by
    unfold Oper.wp execOp
    simp only [hop, hx, Sem.run_bind, Sem.run_pure, Result.andThen_ok, hv]
    exact hK _ _ h
theorem wpB_loadV {C : World → Prop} {Q : Act → Prop} (hop : o.op = .load T x) {u : Value} (hx : a.eval x = u) (hw : Region.wanted o (yielded ops a.tmps) = true) (hv : ∀ V, C V → (Instr.loadAt T u).run Tryz.prog V = .ok v V)
    (hk : wpB Tryz.prog ops C Q rest (a.put o.dst v)) : wpB Tryz.prog ops C Q (o :: rest) a :=
  wpB_val hw (fun V hV => by
    unfold execOp
    simp only [hop, hx, Sem.run_bind, Sem.run_pure, Result.andThen_ok, hv V hV]) hk
end walk
theorem run_idx27 {ρ : Operand → Value} {o : Oper} {x y : Operand} {g f n cap p : Nat} (hop : o.op = .indexAddr 27 x y) (hx : ρ x = .slice (some ⟨g, f, none⟩) n cap) (hy : ρ y = .int .i64 (p : Int)) (hp : p < n) (w : World) : (execOp ρ o).run Tryz.prog w = .ok (.value (.pointer (some ⟨g, f + p * 13, none⟩))) w := by
  unfold execOp
  simp only [hop, hx, hy]
  have hq : (p : Int) < (n : Int) := by omega
  have hz : ¬ (p : Int) < 0 := by omega
  go_simp
  all_goals skip
theorem run_sl27 {ρ : Operand → Value} {o : Oper} {x y : Operand} {g f n cap p : Nat} (hop : o.op = .slice 27 x none (some y) none) (hx : ρ x = .slice (some ⟨g, f, none⟩) n cap) (hy : ρ y = .int .i64 (p : Int)) (hp : p ≤ cap) (w : World) : (execOp ρ o).run Tryz.prog w = .ok (.value (.slice (some ⟨g, f, none⟩) p cap)) w := by
  unfold execOp
  simp only [hop, Option.map_some, Option.map_none, hx, hy]
  have hq : (p : Int) ≤ (cap : Int) := by omega
  have hz : ¬ (p : Int) < 0 := by omega
  go_simp
  all_goals skip
/-- The cells of a prefix. -/
def wcell (x : Px × Nat) : List Value := pcells x.1 ++ [.int .u64 (x.2 : Int)]
/-- A row of weights lies in a world. -/
def RowW (w : World) (a : Option Addr) (ws : List (Px × Nat)) : Prop := ∀ (j : Nat) (h : j < ws.length), ws[j].1.ok ∧ ∃ g f, a = some ⟨g, f, none⟩ ∧ g < w.heap.size ∧ ∀ k v, (wcell ws[j])[k]? = some v → w.cell? ⟨g, f + j * 13 + k, none⟩ = some v
theorem cell_heap {V w : World} {g : Nat} (h : V.heap[g]? = w.heap[g]?) (k : Nat) : V.cell? ⟨g, k, none⟩ = w.cell? ⟨g, k, none⟩ := by
  simp only [World.cell?, h]
theorem Hp.outside {w V : World} {l : List En} (h : Hp w V l) (ho : l.all (·.own) = true) {g : Nat} (hg : g < w.heap.size) : V.heap[g]? = w.heap[g]? := h.rest g hg fun e he hb => by
  have h1 := h.own e he (List.all_eq_true.1 ho e he)
  omega
theorem RowW.next {w V : World} {a : Option Addr} {ws : List (Px × Nat)} (h : RowW w a ws) {l : List En} (HH : Hp w V l) (ho : l.all (·.own) = true) : RowW V a ws := fun j hj => by
  obtain ⟨h1, g, f, h2, h3, h4⟩ := h j hj
  refine ⟨h1, g, f, h2, Nat.lt_of_lt_of_le h3 HH.size, fun k v hk => ?_⟩
  rw [cell_heap (HH.outside ho h3)]
  exact h4 k v hk
theorem RowW.take {w : World} {a : Option Addr} {ws : List (Px × Nat)} (h : RowW w a ws) (m : Nat) : RowW w a (ws.take m) := fun j hj => by
  have hj2 : j < ws.length := by rw [List.length_take] at hj; omega
  have h1 := h j hj2
  rw [List.getElem_take]
  exact h1
theorem load_p {w V : World} {l : List En} (HH : Hp w V l) (ho : l.all (·.own) = true) {g f j : Nat} {x : Px × Nat} (hg : g < w.heap.size) (h : ∀ k v, (wcell x)[k]? = some v → w.cell? ⟨g, f + j * 13 + k, none⟩ = some v) : (Instr.loadAt 34 (.pointer (some ⟨g, f + j * 13, none⟩))).run Tryz.prog V = .ok x.1.v V := by
  refine run_load_w (cs := pcells x.1) inferInstance rfl fun k v hk => ?_
  rw [cell_heap (HH.outside ho hg)]
  refine h k v ?_
  unfold wcell
  rw [List.getElem?_append_left (List.getElem?_eq_some_iff.1 hk).1]
  exact hk
theorem load_w {w V : World} {l : List En} (HH : Hp w V l) (ho : l.all (·.own) = true) {g f j : Nat} {x : Px × Nat} (hg : g < w.heap.size) (h : ∀ k v, (wcell x)[k]? = some v → w.cell? ⟨g, f + j * 13 + k, none⟩ = some v) : (Instr.loadAt 29 (.pointer (some ⟨g, f + j * 13 + 12, none⟩))).run Tryz.prog V = .ok (.int .u64 (x.2 : Int)) V := by
  refine run_load_w1 inferInstance ?_
  rw [cell_heap (HH.outside ho hg)]
  exact h 12 _ rfl
theorem wOf_app (s : Sp) (ws : List (Px × Nat)) (x : Px × Nat) (q : Px) : wOf s (ws ++ [x]) q = wOf s ws q + if OB s q x.1 then x.2 else 0 := by
  unfold wOf
  simp
theorem wOf_take (s : Sp) (ws : List (Px × Nat)) (j : Nat) (q : Px) : wOf s (ws.take j) q ≤ wOf s ws q := by
  have h : wOf s ws q = wOf s (ws.take j) q + wOf s (ws.drop j) q := by
    conv => lhs; rw [← List.take_append_drop j ws]
    unfold wOf
    rw [List.map_append, List.sum_append]
  omega

set_option maxRecDepth 100000 in
set_option maxHeartbeats 4000000 in
theorem weight_walk (w : World) (s : Sp) (a : Option Addr) (cap : Nat) (ws : List (Px × Nat)) (p : Px) (hp : p.ok) (hrow : RowW w a ws) (hlen : ws.length ≤ 4611686018427387904) (hsum : wOf s ws p < 18446744073709551616) : Calls Tryz.prog 9 #[s.v, .slice a ws.length cap, p.v] w fun e w' => e = .returned (.int .u64 (wOf s ws p : Int)) ∧ Below w.heap.size w w' := by
  have HH := Hp.nil w
  go_enter Tryz.func9, Tryz.ntmps9
  go_wp2_with ((with_reducible show zW (Op.box _ _)); refine wpl_box HH rfl rfl rfl ?_; clear HH; intro b V HH; simp only [Act.eval, zx, Value.cells, putl, zC, zB] at HH; (try simp only [Act.put, zz]))
  go_loopw [7, 8] (fun m i wr => ∃ j : Nat, j ≤ ws.length ∧ i = .int .i64 (j : Int) ∧ m = .int .u64 ((wOf s (ws.take j) p : Nat) : Int) ∧ Hp w wr (Hp.lst HH)) (fun _ i _ => (ws.length - (intOf i).toNat))
  case atStart => exact ⟨0, by omega, rfl, rfl, HH⟩
  case round =>
    obtain ⟨j, hj0, rfl, rfl, HR⟩ := hrel
    dsimp only [Hp.lst] at HR
    have HH := HR
    clear HR
    by_cases hj : j < ws.length
    · have hj2 : (j : Int) < (ws.length : Int) := by omega
      obtain ⟨hok, lb, lo, rfl, hlb, hcs⟩ := hrow j hj
      have hts : ws.take (j + 1) = ws.take j ++ [ws[j]] := List.take_succ_eq_append_getElem hj
      have hle := wOf_take s ws (j + 1) p
      have hst := wOf_app s (ws.take j) ws[j] p
      rw [← hts] at hst
      have HOB := rob_gives s hp hok
      have HCS := Lib.hid hcs
      have HRW := Lib.hid hrow
      obtain ⟨A, hA⟩ : ∃ A, wOf s (ws.take j) p = A := ⟨_, rfl⟩
      obtain ⟨B, hB⟩ : ∃ B, wOf s (ws.take (j + 1)) p = B := ⟨_, rfl⟩
      rw [hA, hB] at hst
      rw [hA]
      rw [hB] at hle
      have HB := Lib.hid hB
      clear hA hB hts hrow
      obtain ⟨x, hx⟩ : ∃ x, x = ws[j] := ⟨_, rfl⟩
      rw [← hx] at HOB hst hcs HCS
      clear hx hok hcs
      cases hob : OB s p x.1
      · rw [hob] at HOB hst
        simp only [Bool.false_eq_true, if_false, Nat.add_zero] at hst
        subst hst
        go_wp2_with (first | ((with_reducible show zX (Op.binOp _ _ _ _ _)); (refine wpl_cmp (p := ?_) rfl rfl rfl ?_ ?_ ?_; rotate_left; (focus (go_simp; with_reducible rfl)); all_goals (intro hq; (try (contradiction)); (try simp only [zw] at hq); (try simp only [Act.put, zz])))) | ((with_reducible show Code.wp _ (Code.region _ _ true) _ _ _); (refine wp_tail_Hp (id := 5) [0, 1, 2, 3, 4, 5, 6, 7] [] (by kernel_rfl) HH ?_; clear HH; (try simp only [pick, zy]); repeat' (first | ((with_reducible show wpB _ _ _ _ [] _); refine wpB_nil ?_; intro V HH) | (((with_reducible show zU _); (first | ((with_reducible show zT (Op.move _)); refine wpB_move rfl rfl rfl ?_) | ((with_reducible show zU (Op.indexAddr 27 _ _)); refine wpB_val rfl (fun V _ => run_idx27 (p := j) rfl rfl rfl hj V) ?_) | ((with_reducible show zU (Op.load 34 _)); refine wpB_loadV rfl (u := .pointer (some ⟨lb, lo + j * 13, none⟩)) rfl rfl (fun V hV => load_p hV rfl hlb HCS.out) ?_) | ((with_reducible show zT (Op.load _ _)); (first | refine wpB_load 0 rfl rfl rfl rfl rfl ?_ | refine wpB_load 1 rfl rfl rfl rfl rfl ?_)) | ((with_reducible show zT (Op.call _)); (refine wpB_callE (f := ?_) (args := ?_) (v := ?_) rfl ?_ ?_ ?_; rotate_left 3; (focus (intro w9 hS9; go_simp; (refine ⟨?_, ?_⟩ <;> with_reducible rfl))); (focus (with_reducible exact (HOB))))) | (refine wpB_val (v := ?_) rfl ?_ ?_; rotate_left; (focus (intro w9 hS9; go_simp; all_goals (with_reducible rfl)))))); all_goals (try simp only [Act.put, zz, Act.eval, zx]))))))
        refine ⟨⟨j + 1, by omega, by push_cast; rfl, ?_, HH⟩, by simp [intOf]; omega⟩
        rw [HB.out]
      · rw [hob] at HOB hst
        simp only [if_true] at hst
        have hwr : IntKind.u64.wrap ((A : Int) + (x.2 : Int)) = (B : Int) := by rw [IntWalk.u64_in _ (by omega)]; omega
        go_wp2_with (first | ((with_reducible show zW (Op.indexAddr 27 _ _)); refine wpl_valu rfl (run_idx27 (p := j) rfl rfl rfl hj _) ?_; (try simp only [Act.put, zz])) | ((with_reducible show zW (Op.load 29 _)); refine wpl_loadV rfl (u := .pointer (some ⟨lb, lo + j * 13 + 12, none⟩)) rfl rfl (load_w HH rfl hlb HCS.out) ?_; (try simp only [Act.put, zz])) | ((with_reducible show zX (Op.binOp _ _ _ _ _)); (refine wpl_cmp (p := ?_) rfl rfl rfl ?_ ?_ ?_; rotate_left; (focus (go_simp; with_reducible rfl)); all_goals (intro hq; (try (contradiction)); (try simp only [zw] at hq); (try simp only [Act.put, zz])))) | ((with_reducible show Code.wp _ (Code.region _ _ true) _ _ _); (refine wp_tail_Hp (id := 5) [0, 1, 2, 3, 4, 5, 6, 7] [] (by kernel_rfl) HH ?_; clear HH; (try simp only [pick, zy]); repeat' (first | ((with_reducible show wpB _ _ _ _ [] _); refine wpB_nil ?_; intro V HH) | (((with_reducible show zU _); (first | ((with_reducible show zT (Op.move _)); refine wpB_move rfl rfl rfl ?_) | ((with_reducible show zU (Op.indexAddr 27 _ _)); refine wpB_val rfl (fun V _ => run_idx27 (p := j) rfl rfl rfl hj V) ?_) | ((with_reducible show zU (Op.load 34 _)); refine wpB_loadV rfl (u := .pointer (some ⟨lb, lo + j * 13, none⟩)) rfl rfl (fun V hV => load_p hV rfl hlb HCS.out) ?_) | ((with_reducible show zT (Op.load _ _)); (first | refine wpB_load 0 rfl rfl rfl rfl rfl ?_ | refine wpB_load 1 rfl rfl rfl rfl rfl ?_)) | ((with_reducible show zT (Op.call _)); (refine wpB_callE (f := ?_) (args := ?_) (v := ?_) rfl ?_ ?_ ?_; rotate_left 3; (focus (intro w9 hS9; go_simp; (refine ⟨?_, ?_⟩ <;> with_reducible rfl))); (focus (with_reducible exact (HOB))))) | (refine wpB_val (v := ?_) rfl ?_ ?_; rotate_left; (focus (intro w9 hS9; go_simp; all_goals (with_reducible rfl)))))); all_goals (try simp only [Act.put, zz, Act.eval, zx]))))))
        refine ⟨⟨j + 1, by omega, by push_cast; rfl, ?_, HH⟩, by simp [intOf]; omega⟩
        rw [HB.out, hst, Int.natCast_add]
    · have hj2 : ¬ (j : Int) < (ws.length : Int) := by omega
      go_wp2_with ((with_reducible show zX (Op.binOp _ _ _ _ _)); (refine wpl_cmp (p := ?_) rfl rfl rfl ?_ ?_ ?_; rotate_left; (focus (go_simp; with_reducible rfl)); all_goals (intro hq; (try (contradiction)); (try simp only [zw] at hq); (try simp only [Act.put, zz]))))
      have hjl : ws.take j = ws := List.take_of_length_le (by omega)
      go_ret
      rw [hjl]
      exact ⟨rfl, HH.below rfl⟩

end Go.Proofs.YtcbahkfbdlhabaaGreatDoor
namespace Go.Proofs.YtcbahkfbdlhabaaGreatDoor
set_option linter.unusedVariables false
set_option linter.unusedSimpArgs false
open Go.RowKit
attribute [local go_sem] index24_0 index24_1 field34_0 field34_1
attribute [local irreducible] wpList Code.wp wpB

theorem Hp.tail3 {w0 W : World} {a b c : En} {E : List En} (h : Hp w0 W (a :: b :: c :: E)) : Hp w0 W (E ++ [a, b, c]) := Hp.comm (r := [a, b, c]) h
theorem Hp.head3 {w0 W : World} {a b c : En} {E : List En} (h : Hp w0 W (E ++ [a, b, c])) : Hp w0 W (a :: b :: c :: E) := Hp.comm (l := [a, b, c]) h
theorem Hp.off3 {w0 W : World} {a b c : En} {E : List En} (h : Hp w0 W (a :: b :: c :: E)) (ho : ∀ e ∈ E, e.own = true) (ha : a.own = true) : Hp w0 W [b, c] := (h.tail3.dropAll ho).drop ha
theorem own3 {a b c : En} {E : List En} (ha : a.own = true) (hb : b.own = true) (hc : c.own = true) (ho : ∀ e ∈ E, e.own = true) : (a :: b :: c :: E).all (·.own) = true := by
  simp only [List.all_cons, ha, hb, hc, Bool.true_and]
  exact List.all_eq_true.2 ho
/-- What Low and High say. -/
theorem lat_sees {k : Int} {s : Sp} {X : Nat} {F : Px → Nat} {t i : Nat} {E : List En} (h : Lat k s X F t i E) (p : Px) (hp : p.ok) : ∃ lo hi : Nat, lo ≤ F p ∧ F p ≤ hi ∧ F p ≤ 4611686018427387904 ∧ (∀ w0 w l, Hp w0 w (E ++ l) → Calls Tryz.prog 7 #[.pointer (some ⟨X, 0, none⟩), p.v] w fun e w' => e = .returned (.int .u64 (lo : Int)) ∧ Hp w0 w' (E ++ l)) ∧ ∀ w0 w l, Hp w0 w (E ++ l) → Calls Tryz.prog 8 #[.pointer (some ⟨X, 0, none⟩), p.v] w fun e w' => e = .returned (.int .u64 (hi : Int)) ∧ Hp w0 w' (E ++ l) := by
  obtain ⟨lo, h1, h2⟩ := lat_low h p hp
  obtain ⟨hi, h3, h4⟩ := lat_high h p hp
  have h5 := h.2.2.2.2.1 p
  have h6 := h.2.2.2.1
  exact ⟨lo, hi, h1, h3, by omega, h2, h4⟩

set_option maxRecDepth 100000 in
set_option maxHeartbeats 4000000 in
theorem law_walk (w : World) (s : Sp) (k most : Int) (a : Option Addr) (cap : Nat) (ws : List (Px × Nat)) (p : Px) (hp : p.ok) (hrow0 : RowW w a ws) (hlen : ws.length ≤ 4611686018427387904) (hcap : ws.length ≤ cap) : Calls Tryz.prog 3 #[s.v, .int .i64 k, .int .i64 most, .slice a ws.length cap, p.v] w fun e w' => e = .returned (.bool true) ∧ Below w.heap.size w w' := by
  have hrow := Lib.hid hrow0
  clear hrow0
  obtain ⟨Wt, hWt0⟩ : ∃ Wt, Wt = wOf s (ws.take 40) p := ⟨_, rfl⟩
  have hWt := Lib.hid hWt0
  clear hWt0
  have HH := Hp.nil w
  go_enter Tryz.func3, Tryz.ntmps3
  go_wp2_with ((with_reducible show zW (Op.box _ _)); refine wpl_box HH rfl rfl rfl ?_; clear HH; intro b V HH; simp only [Act.eval, zx, Value.cells, putl, zC, zB] at HH; (try simp only [Act.put, zz]))
  go_loopw [11, 12, 13] (fun lo hi kd wr => ∃ L H κ : Nat, lo = .int .u64 (L : Int) ∧ hi = .int .u64 (H : Int) ∧ kd = .int .i64 (κ : Int) ∧ 1 ≤ κ ∧ κ ≤ 4 ∧ L ≤ Wt ∧ (1 < κ → Wt ≤ 4611686018427387904 ∧ Wt ≤ H) ∧ (κ = 1 → H = 9223372036854775808) ∧ Hp w wr (Hp.lst HH)) (fun _ _ kd _ => (4 - (intOf kd).toNat))
  case atStart => exact ⟨0, 9223372036854775808, 1, rfl, rfl, rfl, by omega, by omega, Nat.zero_le _, fun h => absurd h (by omega), fun _ => rfl, HH⟩
  case round =>
    obtain ⟨L, H, κ, rfl, rfl, rfl, hκ1, hκ4, hLW, hHW, hH1, HR⟩ := hrel
    dsimp only [Hp.lst] at HR
    have HH := HR
    clear HR
    have HH1 := Lib.hid hH1
    have HHW := Lib.hid hHW
    clear hH1 hHW
    by_cases hκ : κ ≤ 3
    · have hκ2 : (κ : Int) ≤ 3 := by omega
      have hk3 := Lib.hid (show (κ : Int) = 1 ∨ (κ : Int) = 2 ∨ (κ : Int) = 3 by omega)
      go_wp2_with (first | (go_at_call 4; (with_reducible refine (lat_new HH (κ : Int) k _ s hk3.out).mono ?_); rintro e V ⟨v9, rfl, h9⟩; clear HH; rcases h9 with ⟨rfl, HH⟩ | ⟨X, E, rfl, hL, HH2⟩; rotate_left; have HH := HH2.head3; clear HH2; have HL := Lib.hid hL; clear hL; all_goals (try simp only [Act.put, zz])) | (go_at_call 5; (with_reducible refine ((alive14_gives) _).mono ?_); rintro e V ⟨rfl, hb⟩; replace HH := HH.next hb; clear hb) | ((with_reducible show zX (Op.load _ _)); (first | (refine wpl_load HH 0 rfl rfl rfl rfl rfl ?_; (try simp only [Act.put, zz])) | (refine wpl_load HH 1 rfl rfl rfl rfl rfl ?_; (try simp only [Act.put, zz])))) | ((with_reducible show zX (Op.binOp _ _ _ _ _)); (refine wpl_cmp (p := ?_) rfl rfl rfl ?_ ?_ ?_; rotate_left; (focus (go_simp; with_reducible rfl)); all_goals (intro hq; (try (contradiction)); (try simp only [zw] at hq); (try simp only [Act.put, zz])))) | ((with_reducible show zW (Op.store _ _ _)); (refine wpl_store HH 0 rfl rfl rfl rfl rfl rfl rfl rfl ?_; clear HH; intro V HH; simp only [Act.eval, zx, Value.cells, putl, zC, zB] at HH; (try simp only [Act.put, zz]))) | ((with_reducible show zW (Op.alloc _)); refine wpl_alloc HH rfl rfl ?_; clear HH; intro b V HH; simp only [Act.eval, zx, Value.cells, putl, zC, zB] at HH; (try simp only [Act.put, zz])))
      all_goals (first | (go_ret; exact ⟨rfl, HH.below rfl⟩) | skip)
      all_goals
        go_loopw [17] (fun i wr => ∃ (j t : Nat) (E' : List En), j ≤ ws.length ∧ j ≤ 40 ∧ i = .int .i64 (j : Int) ∧ Lat k s X (wOf s (ws.take j)) t j E' ∧ Hp w wr ((Hp.lst HH).take 3 ++ E')) (fun i _ => (40 - (intOf i).toNat))
        case atStart => exact ⟨0, 0, E, by omega, by omega, rfl, HL.out, HH⟩
        case round =>
          obtain ⟨j, t, E1, hj0, hj4, rfl, hL1, HR⟩ := hrel
          dsimp only [Hp.lst, List.take] at HR
          have HH : Hp w wr (_ :: _ :: _ :: E1) := HR
          clear HR HL
          have HL := Lib.hid hL1
          clear hL1
          by_cases hj : j < ws.length ∧ j < 40
          · obtain ⟨hj, hj3⟩ := hj
            have hj2 : (j : Int) < (ws.length : Int) := by omega
            have hj5 : (j : Int) < 40 := by omega
            have hj50 : j ≤ 5000 := by omega
            obtain ⟨hok, lb, lo, rfl, hlb, hcs⟩ := hrow.out j hj
            have hts : ws.take (j + 1) = ws.take j ++ [ws[j]] := List.take_succ_eq_append_getElem hj
            obtain ⟨x, hx⟩ : ∃ x, x = ws[j] := ⟨_, rfl⟩
            rw [← hx] at hok hcs hts
            have HTS := Lib.hid hts
            have HCS := Lib.hid hcs
            clear hx hcs hts
            go_wp2_with (first | (go_at_call 6; (with_reducible refine (lat_ins HL.out HH.tail3 hj50 x.1 hok x.2).mono ?_); rintro e V ⟨v9, rfl, h9⟩; clear HH; rcases h9 with ⟨rfl, E2, hL2, HH2⟩ | ⟨⟨z, rfl, hz⟩, HH⟩; have HH := HH2.head3; clear HH2; all_goals (try simp only [Act.put, zz])) | (go_at_call 5; (with_reducible refine ((alive14_gives) _).mono ?_); rintro e V ⟨rfl, hb⟩; replace HH := HH.next hb; clear hb) | ((with_reducible show zX (Op.binOp _ _ _ _ _)); (refine wpl_cmp (p := ?_) rfl rfl rfl ?_ ?_ ?_; rotate_left; (focus (go_simp; with_reducible rfl)); all_goals (intro hq; (try (contradiction)); (try simp only [zw] at hq); (try simp only [Act.put, zz])))) | ((with_reducible show zY (Op.binOp _ _ _ _ _)); (refine wpl_cmp (p := ?_) rfl rfl (by simp only [Region.wanted, yielded, zy, Option.bind_some]; decide) ?_ ?_ ?_; rotate_left; (focus (go_simp; with_reducible rfl)); all_goals (intro hq; (try (contradiction)); (try simp only [zw] at hq); (try simp only [Act.put, zz])))) | ((with_reducible show Code.wp _ (Code.region _ _ true) _ _ _); (refine wp_tail_Hp (id := 14) [0, 1, 2, 3, 4, 5, 6, 7, 8, 9, 10] [11, 12] (by kernel_rfl) HH ?_; clear HH; (try simp only [pick, zy]); repeat' (first | ((with_reducible show wpB _ _ _ _ [] _); refine wpB_nil ?_; intro V HH) | (((with_reducible show zU _); (first | ((with_reducible show zT (Op.move _)); refine wpB_move rfl rfl rfl ?_) | ((with_reducible show zU (Op.indexAddr 27 _ _)); refine wpB_val rfl (fun V _ => run_idx27 (p := j) rfl rfl rfl hj V) ?_) | ((with_reducible show zU (Op.load 34 _)); refine wpB_loadV rfl (u := .pointer (some ⟨lb, lo + j * 13, none⟩)) rfl rfl (fun V hV => load_p hV (own3 rfl rfl rfl HL.out.own) hlb HCS.out) ?_) | ((with_reducible show zU (Op.load 29 _)); refine wpB_loadV rfl (u := .pointer (some ⟨lb, lo + j * 13 + 12, none⟩)) rfl rfl (fun V hV => load_w hV (own3 rfl rfl rfl HL.out.own) hlb HCS.out) ?_) | (refine wpB_val (v := ?_) rfl ?_ ?_; rotate_left; (focus (intro w9 hS9; go_simp; all_goals (with_reducible rfl)))))); all_goals (try simp only [Act.put, zz, Act.eval, zx]))))))
            · refine ⟨⟨j + 1, t + x.2, E2, by omega, by omega, by push_cast; rfl, ?_, HH⟩, by simp [intOf]; omega⟩
              rw [HTS.out]
              exact (wOf_snoc s (ws.take j) x.1 x.2) ▸ hL2
            · go_ret
              exact ⟨rfl, HH.below rfl⟩
            · exact absurd (by simpa using hq) hz
          · have htk : ws.take j = ws.take 40 := by
              by_cases h40 : j = 40
              · rw [h40]
              · rw [List.take_of_length_le (by omega), List.take_of_length_le (by omega)]
            obtain ⟨lo, hi, hlo, hhi, hw62, HLO0, HHI0⟩ := lat_sees HL.out p hp
            rw [htk, ← hWt.out] at hlo hhi hw62
            have HLO := Lib.hid HLO0
            have HHI := Lib.hid HHI0
            clear HLO0 HHI0 htk
            go_wp2_with (first | (go_at_call 7; (with_reducible refine (HLO.out _ _ _ HH.tail3).mono ?_); rintro e V ⟨rfl, HH2⟩; clear HH; have HH := HH2.head3; clear HH2; (try simp only [Act.put, zz])) | (go_at_call 8; (with_reducible refine (HHI.out _ _ _ HH.tail3).mono ?_); rintro e V ⟨rfl, HH2⟩; clear HH; have HH := HH2.head3; clear HH2; (try simp only [Act.put, zz])) | ((with_reducible show zX (Op.load _ _)); (refine wpl_load HH 1 rfl rfl rfl rfl rfl ?_; (try simp only [Act.put, zz]))) | ((with_reducible show zX (Op.binOp _ _ _ _ _)); (refine wpl_cmp (p := ?_) rfl rfl rfl ?_ ?_ ?_; rotate_left; (focus (go_simp; with_reducible rfl)); all_goals (intro hq; (try simp only [zw] at hq); (try simp only [Act.put, zz])))) | ((with_reducible show zY (Op.binOp _ _ _ _ _)); (refine wpl_cmp (p := ?_) rfl rfl (by simp only [Region.wanted, yielded, zy, Option.bind_some]; decide) ?_ ?_ ?_; rotate_left; (focus (go_simp; with_reducible rfl)); all_goals (intro hq; (try simp only [zw] at hq); (try simp only [Act.put, zz])))))
            all_goals (first | (exfalso; omega) | (refine ⟨⟨lo, hi, κ + 1, rfl, rfl, by push_cast; rfl, by omega, by omega, by omega, fun _ => ⟨by omega, ?_⟩, fun h => absurd h (by omega), HH.tail3.dropAll HL.out.own |>.drop rfl⟩, by simp [intOf]; omega⟩; (omega)) | (refine ⟨⟨lo, H, κ + 1, rfl, rfl, by push_cast; rfl, by omega, by omega, by omega, fun _ => ⟨by omega, ?_⟩, fun h => absurd h (by omega), HH.tail3.dropAll HL.out.own |>.drop rfl⟩, by simp [intOf]; omega⟩; (have h7 := HHW.out; have h8 := HH1.out; omega)) | (refine ⟨⟨L, hi, κ + 1, rfl, rfl, by push_cast; rfl, by omega, by omega, by omega, fun _ => ⟨by omega, ?_⟩, fun h => absurd h (by omega), HH.tail3.dropAll HL.out.own |>.drop rfl⟩, by simp [intOf]; omega⟩; (omega)) | (refine ⟨⟨L, H, κ + 1, rfl, rfl, by push_cast; rfl, by omega, by omega, by omega, fun _ => ⟨by omega, ?_⟩, fun h => absurd h (by omega), HH.tail3.dropAll HL.out.own |>.drop rfl⟩, by simp [intOf]; omega⟩; (have h7 := HHW.out; have h8 := HH1.out; omega)))
    · have hκ2 : ¬ (κ : Int) ≤ 3 := by omega
      obtain ⟨hw1, hw2⟩ := HHW.out (by omega)
      have hd1 : decide ((L : Int) ≤ (Wt : Int)) = true := decide_eq_true (by omega)
      have hd2 : decide ((Wt : Int) ≤ (H : Int)) = true := decide_eq_true (by omega)
      by_cases h40 : ws.length > 40
      · have h402 : (ws.length : Int) > 40 := by omega
        have hl40 : (ws.take 40).length = 40 := by rw [List.length_take]; omega
        obtain ⟨_, g9, f9, rfl, _⟩ := hrow.out 0 (by omega)
        have HW0 := fun V hr => weight_walk V s (some ⟨g9, f9, none⟩) cap (ws.take 40) p hp hr (by omega) (by rw [← hWt.out]; omega)
        simp only [hl40, ← hWt.out] at HW0
        have HW : ∀ V, RowW V (some ⟨g9, f9, none⟩) (ws.take 40) → Calls Tryz.prog 9 #[s.v, .slice (some ⟨g9, f9, none⟩) 40 cap, p.v] V fun e w' => e = .returned (.int .u64 (Wt : Int)) ∧ Below V.heap.size V w' := HW0
        clear HW0
        go_wp2_with (first | ((with_reducible show zW (Op.slice 27 _ _ _ _)); refine wpl_valu rfl (run_sl27 (p := 40) rfl rfl rfl (by omega) _) ?_; (try simp only [Act.put, zz])) | (go_at_call 9; (with_reducible refine (HW _ (RowW.take (RowW.next hrow.out HH rfl) 40)).mono ?_); rintro e V ⟨rfl, hb⟩; replace HH := HH.next hb; clear hb; (try simp only [Act.put, zz])) | (go_at_call 5; (with_reducible refine ((alive14_gives) _).mono ?_); rintro e V ⟨rfl, hb⟩; replace HH := HH.next hb; clear hb) | ((with_reducible show zX (Op.load _ _)); (first | (refine wpl_load HH 0 rfl rfl rfl rfl rfl ?_; (try simp only [Act.put, zz])) | (refine wpl_load HH 1 rfl rfl rfl rfl rfl ?_; (try simp only [Act.put, zz])))) | ((with_reducible show zX (Op.binOp _ _ _ _ _)); (refine wpl_cmp (p := ?_) rfl rfl rfl ?_ ?_ ?_; rotate_left; (focus (go_simp; with_reducible rfl)); all_goals (intro hq; (try (contradiction)); (try simp only [zw] at hq); (try simp only [Act.put, zz])))) | ((with_reducible show zY (Op.binOp _ _ _ _ _)); (refine wpl_cmp (p := ?_) rfl rfl (by simp only [Region.wanted, yielded, zy, Option.bind_some]; decide) ?_ ?_ ?_; rotate_left; (focus (go_simp; with_reducible rfl)); all_goals (intro hq; (try (contradiction)); (try simp only [zw] at hq); (try simp only [Act.put, zz])))))
        go_ret
        exact ⟨rfl, HH.below rfl⟩
      · have h402 : ¬ (ws.length : Int) > 40 := by omega
        have hl40 : ws.take 40 = ws := List.take_of_length_le (by omega)
        have HW0 := fun V hr => weight_walk V s a cap (ws.take 40) p hp hr (by rw [hl40]; omega) (by rw [← hWt.out]; omega)
        have HW : ∀ V, RowW V a (ws.take 40) → Calls Tryz.prog 9 #[s.v, .slice a ws.length cap, p.v] V fun e w' => e = .returned (.int .u64 (Wt : Int)) ∧ Below V.heap.size V w' := fun V hr => by
          have h := HW0 V hr
          rw [← hWt.out, hl40] at h
          exact h
        clear HW0 hl40
        go_wp2_with (first | (go_at_call 9; (with_reducible refine (HW _ (RowW.take (RowW.next hrow.out HH rfl) 40)).mono ?_); rintro e V ⟨rfl, hb⟩; replace HH := HH.next hb; clear hb; (try simp only [Act.put, zz])) | (go_at_call 5; (with_reducible refine ((alive14_gives) _).mono ?_); rintro e V ⟨rfl, hb⟩; replace HH := HH.next hb; clear hb) | ((with_reducible show zX (Op.load _ _)); (first | (refine wpl_load HH 0 rfl rfl rfl rfl rfl ?_; (try simp only [Act.put, zz])) | (refine wpl_load HH 1 rfl rfl rfl rfl rfl ?_; (try simp only [Act.put, zz])))) | ((with_reducible show zX (Op.binOp _ _ _ _ _)); (refine wpl_cmp (p := ?_) rfl rfl rfl ?_ ?_ ?_; rotate_left; (focus (go_simp; with_reducible rfl)); all_goals (intro hq; (try (contradiction)); (try simp only [zw] at hq); (try simp only [Act.put, zz])))) | ((with_reducible show zY (Op.binOp _ _ _ _ _)); (refine wpl_cmp (p := ?_) rfl rfl (by simp only [Region.wanted, yielded, zy, Option.bind_some]; decide) ?_ ?_ ?_; rotate_left; (focus (go_simp; with_reducible rfl)); all_goals (intro hq; (try (contradiction)); (try simp only [zw] at hq); (try simp only [Act.put, zz])))))
        go_ret
        exact ⟨rfl, HH.below rfl⟩

end Go.Proofs.YtcbahkfbdlhabaaGreatDoor
