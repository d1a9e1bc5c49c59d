/- A part of the proof that the law TopThree returns true for all arguments of bulk at most 1048576 (no other condition). Here: The shapes of the types of the tries, savings and lattices. slices.Values, trie.up, trie.missing. -/
import Derived.Test.YtcbahkfbdlhabaaGreatDoorK12
import Derived.Test.YtcbahkfbdlhabaaGreatDoorK08
namespace Go.Proofs.YtcbahkfbdlhabaaGreatDoor
set_option linter.unusedVariables false
set_option linter.unusedSimpArgs false
open Go.RowKit
instance : Shp 53 false 1 := ⟨fun _ => by kernel_rfl, by kernel_rfl⟩
instance : Zro 53 (.pointer none) := ⟨fun _ => by kernel_rfl⟩
instance : Shp 54 false 1 := ⟨fun _ => by kernel_rfl, by kernel_rfl⟩
instance : Zro 54 (.pointer none) := ⟨fun _ => by kernel_rfl⟩
instance : Shp 58 false 1 := ⟨fun _ => by kernel_rfl, by kernel_rfl⟩
instance : Zro 58 (.pointer none) := ⟨fun _ => by kernel_rfl⟩
instance : Shp 63 false 1 := ⟨fun _ => by kernel_rfl, by kernel_rfl⟩
instance : Zro 63 (.pointer none) := ⟨fun _ => by kernel_rfl⟩
instance : Shp 71 false 1 := ⟨fun _ => by kernel_rfl, by kernel_rfl⟩
instance : Zro 71 (.pointer none) := ⟨fun _ => by kernel_rfl⟩
instance : Shp 78 false 1 := ⟨fun _ => by kernel_rfl, by kernel_rfl⟩
instance : Zro 78 (.pointer none) := ⟨fun _ => by kernel_rfl⟩
instance : Shp 81 false 1 := ⟨fun _ => by kernel_rfl, by kernel_rfl⟩
instance : Zro 81 (.map none) := ⟨fun _ => by kernel_rfl⟩
instance : Shp 90 false 1 := ⟨fun _ => by kernel_rfl, by kernel_rfl⟩
instance : Zro 90 (.map none) := ⟨fun _ => by kernel_rfl⟩
instance : Shp 94 false 1 := ⟨fun _ => by kernel_rfl, by kernel_rfl⟩
instance : Zro 94 (.map none) := ⟨fun _ => by kernel_rfl⟩
instance : Shp 193 false 1 := ⟨fun _ => by kernel_rfl, by kernel_rfl⟩
instance : Zro 193 (.map none) := ⟨fun _ => by kernel_rfl⟩
instance : Shp 27 false 1 := ⟨fun _ => by kernel_rfl, by kernel_rfl⟩
instance : Zro 27 (.slice none 0 0) := ⟨fun _ => by kernel_rfl⟩
instance : Shp 59 false 1 := ⟨fun _ => by kernel_rfl, by kernel_rfl⟩
instance : Zro 59 (.slice none 0 0) := ⟨fun _ => by kernel_rfl⟩
instance : Shp 95 false 1 := ⟨fun _ => by kernel_rfl, by kernel_rfl⟩
instance : Zro 95 (.slice none 0 0) := ⟨fun _ => by kernel_rfl⟩
instance : Shp 167 false 1 := ⟨fun _ => by kernel_rfl, by kernel_rfl⟩
instance : Zro 167 (.slice none 0 0) := ⟨fun _ => by kernel_rfl⟩
instance : Shp 50 false 1 := ⟨fun _ => by kernel_rfl, by kernel_rfl⟩
instance : Zro 50 (.nilIface) := ⟨fun _ => by kernel_rfl⟩
instance : Shp 80 false 1 := ⟨fun _ => by kernel_rfl, by kernel_rfl⟩
instance : Zro 80 (.nilFunc) := ⟨fun _ => by kernel_rfl⟩
instance : Shp 184 false 1 := ⟨fun _ => by kernel_rfl, by kernel_rfl⟩
instance : Zro 184 (.nilFunc) := ⟨fun _ => by kernel_rfl⟩
instance : Shp 57 true 1 := ⟨fun _ => by kernel_rfl, by kernel_rfl⟩
instance : Zro 57 (.agg #[.pointer none]) := ⟨fun _ => by kernel_rfl⟩
instance : Shp 61 true 8 := ⟨fun _ => by kernel_rfl, by kernel_rfl⟩
instance : Zro 61 (.agg #[.int .i64 0, .int .i64 0, .int .i64 0, .int .i64 0, .int .i64 0, .int .i64 0, .int .i64 0, .slice none 0 0]) := ⟨fun _ => by kernel_rfl⟩
instance : Shp 75 true 3 := ⟨fun _ => by kernel_rfl, by kernel_rfl⟩
instance : Zro 75 (.agg #[.pointer none, .int .i64 0, .int .i64 0]) := ⟨fun _ => by kernel_rfl⟩
instance : Shp 83 true 5 := ⟨fun _ => by kernel_rfl, by kernel_rfl⟩
instance : Zro 83 (.agg #[.int .i64 0, .int .u64 0, .int .u64 0, .pointer none, .map none]) := ⟨fun _ => by kernel_rfl⟩
instance : Shp 92 true 11 := ⟨fun _ => by kernel_rfl, by kernel_rfl⟩
instance : Zro 92 (.agg #[.int .i64 0, .int .i64 0, .int .i64 0, .int .i64 0, .int .i64 0, .int .i64 0, .int .i64 0, .bool false, .int .u64 0, .int .u64 0, .map none]) := ⟨fun _ => by kernel_rfl⟩
instance : Shp 97 true 3 := ⟨fun _ => by kernel_rfl, by kernel_rfl⟩
instance : Zro 97 (.agg #[.nilFunc, .map none, .slice none 0 0]) := ⟨fun _ => by kernel_rfl⟩
instance : Shp 169 true 11 := ⟨fun _ => by kernel_rfl, by kernel_rfl⟩
instance : Zro 169 (.agg #[.int .i64 0, .int .i64 0, .int .i64 0, .int .i64 0, .int .i64 0, .int .i64 0, .int .i64 0, .bool false, .int .u64 0, .int .u64 0, .slice none 0 0]) := ⟨fun _ => by kernel_rfl⟩
instance : Shp 176 true 14 := ⟨fun _ => by kernel_rfl, by kernel_rfl⟩
instance : Zro 176 (.agg #[.int .i64 0, .int .i64 0, .int .i64 0, .int .i64 0, .int .u64 0, .int .u64 0, .string ⟨#[]⟩, .int .i64 0, .int .i64 0, .int .u64 0, .int .u64 0, .string ⟨#[]⟩, .int .u64 0, .int .u64 0]) := ⟨fun _ => by kernel_rfl⟩
instance : Shp 195 true 28 := ⟨fun _ => by kernel_rfl, by kernel_rfl⟩
instance : Zro 195 (.agg #[.int .i64 0, .int .i64 0, .int .i64 0, .int .i64 0, .int .i64 0, .int .i64 0, .int .i64 0, .bool false, .int .u64 0, .int .u64 0, .slice none 0 0, .int .u64 0, .int .i64 0, .int .i64 0, .int .i64 0, .int .i64 0, .int .u64 0, .int .u64 0, .string ⟨#[]⟩, .int .i64 0, .int .i64 0, .int .u64 0, .int .u64 0, .string ⟨#[]⟩, .map none, .map none, .int .u64 0, .int .i64 0]) := ⟨fun _ => by kernel_rfl⟩
instance : Shp 250 true 13 := ⟨fun _ => by kernel_rfl, by kernel_rfl⟩
instance : Zro 250 (.agg #[.int .i64 0, .int .i64 0, .int .i64 0, .int .i64 0, .int .u64 0, .int .u64 0, .string ⟨#[]⟩, .int .i64 0, .int .i64 0, .int .u64 0, .int .u64 0, .string ⟨#[]⟩, .int .u64 0]) := ⟨fun _ => by kernel_rfl⟩
instance : Shp 52 true 12 := ⟨fun _ => by kernel_rfl, by kernel_rfl⟩
/-- A node as plain data: a prefix, its weight, its delta. -/
structure Nd where
  p : Px
  g : Nat
  d : Nat
abbrev Nd.v (x : Nd) : Value := .agg #[.int .i64 x.p.a0, .int .i64 x.p.a1, .int .i64 x.p.k0.k, .int .i64 x.p.k0.l, .int .u64 (x.p.k0.hi : Int), .int .u64 (x.p.k0.lo : Int), .string x.p.k0.p, .int .i64 x.p.k1.k, .int .i64 x.p.k1.l, .int .u64 (x.p.k1.hi : Int), .int .u64 (x.p.k1.lo : Int), .string x.p.k1.p, .int .u64 (x.g : Int), .int .u64 (x.d : Int)]
instance : MpT 193 176 (.agg #[.int .i64 0, .int .i64 0, .int .i64 0, .int .i64 0, .int .u64 0, .int .u64 0, .string ⟨#[]⟩, .int .i64 0, .int .i64 0, .int .u64 0, .int .u64 0, .string ⟨#[]⟩, .int .u64 0, .int .u64 0]) := ⟨by kernel_rfl, fun _ => by kernel_rfl⟩
set_option maxRecDepth 100000 in
theorem run_neq90 {ρ : Operand → Value} {o : Oper} {x y : Operand} {b : Nat} {ty : TypeId} (hop : o.op = .binOp .neq 90 x y ty) (hx : ρ x = .map (some b)) (hy : ρ y = .map none) (w : World) : (execOp ρ o).run Tryz.prog w = .ok (.value (.bool true)) w := by
  unfold execOp
  simp only [hop, hx, hy]
  kernel_rfl
set_option maxRecDepth 100000 in
theorem run_neq80 {ρ : Operand → Value} {o : Oper} {x y : Operand} {f : Fn} {a b : Array Value} {ty : TypeId} (hop : o.op = .binOp .neq 80 x y ty) (hx : ρ x = .func (.func 26) #[] #[]) (hy : ρ y = .nilFunc) (w : World) : (execOp ρ o).run Tryz.prog w = .ok (.value (.bool true)) w := by
  unfold execOp
  simp only [hop, hx, hy]
  kernel_rfl
set_option maxRecDepth 100000 in
theorem run_neq50 {ρ : Operand → Value} {o : Oper} {x y : Operand} {T : TypeId} {v : Value} {ty : TypeId} (hop : o.op = .binOp .neq 50 x y ty) (hx : ρ x = .iface T v) (hy : ρ y = .nilIface) (w : World) : (execOp ρ o).run Tryz.prog w = .ok (.value (.bool true)) w := by
  unfold execOp
  simp only [hop, hx, hy]
  kernel_rfl
theorem wpB_callH {ops : Array Oper} {C : World → Prop} {Q : Act → Prop} {rest : List Oper} {o : Oper} {a : Act} {v : Value} {f : FuncId} {args : Array Value} (hw : Region.wanted o (yielded ops a.tmps) = true) (hg : ∀ V, C V → Calls Tryz.prog f args V fun e w' => e = .returned v ∧ Below V.heap.size V w')
    (h : ∀ V, C V → (execOp a.eval o).run Tryz.prog V = .ok (.enter f args) V) (hk : wpB Tryz.prog ops C Q rest (a.put o.dst v)) : wpB Tryz.prog ops C Q (o :: rest) a := by
  show qB _ _ _ _ _ _
  unfold qB
  rw [if_pos hw]
  exact ⟨v, fun V hV => by rw [h V hV]; exact ⟨rfl, hg V hV⟩, hk⟩
section look
variable {ops : Array Oper} {Q : Exit → Act → World → Prop} {rest : List Oper} {o : Oper} {a : Act} {w0 W : World} {l : List En} {T E : TypeId} {z : Value} {x y u : Operand} {b c : Nat} {own : Bool} {α : Type} {enc : α → Value} {m : List (Me α)}
theorem wpl_lookN [hT : MpT T E z] (HH : Hp w0 W l) (i : Nat) (p : Px) (hm : mget m p = none) (hop : o.op = .lookup T x y true) (hx : a.eval x = .map (some b)) (hy : a.eval y = p.v) (he : l[i]? = some ⟨b, mp enc m c, own⟩) (hw : Region.wanted o (yielded ops a.tmps) = true)
    (h : wpList Tryz.prog ops Q rest (a.put o.dst (.tuple #[z, .bool false])) W) : wpList Tryz.prog ops Q (o :: rest) a W :=
  wpl_look HH i p hop hx hy he hw (by simpa [hm] using h)
theorem wpl_lookS [hT : MpT T E z] (HH : Hp w0 W l) (i : Nat) (p : Px) {v : α} (hm : mget m p = some v) (hop : o.op = .lookup T x y true) (hx : a.eval x = .map (some b)) (hy : a.eval y = p.v) (he : l[i]? = some ⟨b, mp enc m c, own⟩) (hw : Region.wanted o (yielded ops a.tmps) = true)
    (h : wpList Tryz.prog ops Q rest (a.put o.dst (.tuple #[enc v, .bool true])) W) : wpList Tryz.prog ops Q (o :: rest) a W :=
  wpl_look HH i p hop hx hy he hw (by simpa [hm] using h)
theorem wpl_lookN1 [hT : MpT T E z] (HH : Hp w0 W l) (i : Nat) (p : Px) (hm : mget m p = none) (hop : o.op = .lookup T x y false) (hx : a.eval x = .map (some b)) (hy : a.eval y = p.v) (he : l[i]? = some ⟨b, mp enc m c, own⟩) (hw : Region.wanted o (yielded ops a.tmps) = true)
    (h : wpList Tryz.prog ops Q rest (a.put o.dst z) W) : wpList Tryz.prog ops Q (o :: rest) a W :=
  wpl_look HH i p hop hx hy he hw (by simpa [hm] using h)
theorem wpl_lookS1 [hT : MpT T E z] (HH : Hp w0 W l) (i : Nat) (p : Px) {v : α} (hm : mget m p = some v) (hop : o.op = .lookup T x y false) (hx : a.eval x = .map (some b)) (hy : a.eval y = p.v) (he : l[i]? = some ⟨b, mp enc m c, own⟩) (hw : Region.wanted o (yielded ops a.tmps) = true)
    (h : wpList Tryz.prog ops Q rest (a.put o.dst (enc v)) W) : wpList Tryz.prog ops Q (o :: rest) a W :=
  wpl_look HH i p hop hx hy he hw (by simpa [hm] using h)
theorem wpB_lookN {Q : Act → Prop} [hT : MpT T E z] (i : Nat) (p : Px) (hm : mget m p = none) (hop : o.op = .lookup T x y true) (hx : a.eval x = .map (some b)) (hy : a.eval y = p.v) (he : l[i]? = some ⟨b, mp enc m c, own⟩) (hw : Region.wanted o (yielded ops a.tmps) = true)
    (h : wpB Tryz.prog ops (fun V => Hp w0 V l) Q rest (a.put o.dst (.tuple #[z, .bool false]))) : wpB Tryz.prog ops (fun V => Hp w0 V l) Q (o :: rest) a :=
  wpB_look i p hop hx hy he hw (by simpa [hm] using h)
theorem wpB_lookS {Q : Act → Prop} [hT : MpT T E z] (i : Nat) (p : Px) {v : α} (hm : mget m p = some v) (hop : o.op = .lookup T x y true) (hx : a.eval x = .map (some b)) (hy : a.eval y = p.v) (he : l[i]? = some ⟨b, mp enc m c, own⟩) (hw : Region.wanted o (yielded ops a.tmps) = true)
    (h : wpB Tryz.prog ops (fun V => Hp w0 V l) Q rest (a.put o.dst (.tuple #[enc v, .bool true]))) : wpB Tryz.prog ops (fun V => Hp w0 V l) Q (o :: rest) a :=
  wpB_look i p hop hx hy he hw (by simpa [hm] using h)
theorem wpB_lookN1 {Q : Act → Prop} [hT : MpT T E z] (i : Nat) (p : Px) (hm : mget m p = none) (hop : o.op = .lookup T x y false) (hx : a.eval x = .map (some b)) (hy : a.eval y = p.v) (he : l[i]? = some ⟨b, mp enc m c, own⟩) (hw : Region.wanted o (yielded ops a.tmps) = true)
    (h : wpB Tryz.prog ops (fun V => Hp w0 V l) Q rest (a.put o.dst z)) : wpB Tryz.prog ops (fun V => Hp w0 V l) Q (o :: rest) a :=
  wpB_look i p hop hx hy he hw (by simpa [hm] using h)
theorem wpB_lookS1 {Q : Act → Prop} [hT : MpT T E z] (i : Nat) (p : Px) {v : α} (hm : mget m p = some v) (hop : o.op = .lookup T x y false) (hx : a.eval x = .map (some b)) (hy : a.eval y = p.v) (he : l[i]? = some ⟨b, mp enc m c, own⟩) (hw : Region.wanted o (yielded ops a.tmps) = true)
    (h : wpB Tryz.prog ops (fun V => Hp w0 V l) Q rest (a.put o.dst (enc v))) : wpB Tryz.prog ops (fun V => Hp w0 V l) Q (o :: rest) a :=
  wpB_look i p hop hx hy he hw (by simpa [hm] using h)
end look
end Go.Proofs.YtcbahkfbdlhabaaGreatDoor
namespace Go.Proofs.YtcbahkfbdlhabaaGreatDoor
set_option linter.unusedVariables false
set_option linter.unusedSimpArgs false
open Go.RowKit
attribute [local go_sem] Oper.semAt_some wide_fn wide_depth Fence.inRound_fn Fence.inRound_depth
attribute [local go_sem] index24_0 index24_1 field34_0 field34_1
attribute [local irreducible] wpList Code.wp wpB

theorem prow_get (L : List Px) (i : Nat) (js : List Value) (hi : i < L.length) : rdv true 12 (prow L ++ js) (i * 12) = some (L[i]).v := by
  have hs : prow L = prow (L.take i) ++ (pcells L[i] ++ prow (L.drop (i + 1))) := by
    have h9 : L = L.take i ++ L[i] :: L.drop (i + 1) := by rw [← List.drop_eq_getElem_cons hi, List.take_append_drop]
    have h8 : ∀ L', L' = L.take i ++ L[i] :: L.drop (i + 1) → prow L' = prow (L.take i) ++ (pcells L[i] ++ prow (L.drop (i + 1))) := by
      rintro _ rfl
      unfold prow
      rw [List.flatMap_append, List.flatMap_cons]
    exact h8 L h9
  show (if true = true then _ else _) = _
  rw [if_pos rfl, hs, List.append_assoc, List.append_assoc]
  have hl : (prow (L.take i)).length = i * 12 := by rw [prow_len, List.length_take, Nat.min_eq_left (by omega)]
  rw [List.drop_append_of_le_length (by omega), List.drop_of_length_le (Nat.le_of_eq hl), List.nil_append, if_pos (by rw [List.length_append, hl, List.length_append]; show _ ≤ _ + (12 + _); omega)]
  rfl
set_option maxRecDepth 100000 in
theorem run_idx173 {ρ : Operand → Value} {o : Oper} {x y : Operand} {g n cap p : Nat} (hop : o.op = .indexAddr 173 x y) (hx : ρ x = .slice (some ⟨g, 0, none⟩) n cap) (hy : ρ y = .int .i64 (p : Int)) (hp : p < n) (w : World) : (execOp ρ o).run Tryz.prog w = .ok (.value (.pointer (some ⟨g, p * 12, none⟩))) w := by
  unfold execOp
  simp only [hop, hx, hy]
  have hq : (p : Int) < (n : Int) := by omega
  have hz : ¬ (p : Int) < 0 := by omega
  go_simp
  all_goals (try simp [hp, hq, hz, Addr.add])
theorem Hp.sames {w W : World} {l : List En} : ∀ {r : List En}, Hp w W (l ++ r) → (∀ e ∈ r, w.heap[e.b]? = some e.o) → Hp w W l
  | [], h, _ => by simpa using h
  | e :: r, h, hr => ((h.perm List.perm_middle).same (hr e (by simp))).sames fun x hx => hr x (by simp [hx])
def KpV (b g : Nat) (A B : World) : Prop := B.heap[b]? = A.heap[b]? ∧ B.heap[g]? = A.heap[g]?

set_option maxRecDepth 100000 in
set_option maxHeartbeats 4000000 in
theorem vals1_in (n bx g cap : Nat) (L : List Px) (js : List Value) (l : Nat) (J Jx : List Px → World → Prop)
    (hJ : ∀ pre A B, J pre A → A.grownBy B none → J pre B)
    (hY : ∀ pre x W, J pre W → pre.length < 100000 → YieldAt Fence.wide (n - 1) Tryz.prog l #[x.v] W fun e W' =>
      (e = .returned (.bool true) ∧ J (pre ++ [x]) W' ∧ KpV bx g W W') ∨ (e = .returned (.bool false) ∧ Jx (pre ++ [x]) W'))
    (hl : L.length ≤ 100000) (W : World) (hbox : W.heap[bx]? = some (.cells #[.slice (some ⟨g, 0, none⟩) L.length cap] 173 (0, 0))) (hrow : W.heap[g]? = some (.cells (prow L ++ js).toArray 34 (0, 0))) (hne : bx ≠ g) (h0 : J [] W) :
    CallsIn Fence.wide n Tryz.prog 167 #[.func (.yield l) #[] #[], .pointer (some ⟨bx, 0, none⟩)] W fun e W' => (∃ v, e = .returned v) ∧
      ((∃ ys, ys = L ∧ J ys W') ∨ (∃ pre, True ∧ Jx pre W')) := by
  refine callsIn_of_wp Tryz.func167 rfl trivial ?_ rfl
  simp only [Tryz.ntmps167, List.size_toArray, List.length_cons, List.length_nil, Nat.reduceAdd, Nat.reduceSub, Array.replicate_succ, Array.replicate_zero, List.push_toArray, List.append_toArray, List.nil_append, List.cons_append]
  gi_wp2_with ((with_reducible show wpListIn _ _ _ _ _ (Oper.mk _ (Op.load 173 _) _ _ _ _ :: _) _ _); refine wpListIn_load0 hbox rfl rfl rfl rfl ?_)
  gi_loopw [7] (fun i wr => ∃ k : Nat, k ≤ L.length ∧ i = .int .i64 k ∧ J (L.take k) wr ∧ wr.heap[bx]? = some (.cells #[.slice (some ⟨g, 0, none⟩) L.length cap] 173 (0, 0)) ∧ wr.heap[g]? = some (.cells (prow L ++ js).toArray 34 (0, 0))) (fun i _ => ((L.length : Int) - intOf i).toNat)
  case atStart => exact ⟨0, by omega, rfl, by simpa using h0, hbox, hrow⟩
  case round =>
    clear hbox hrow
    obtain ⟨k, hk0, rfl, hj, hbox, hrow⟩ := hrel
    by_cases hk : k < L.length
    · have hk2 : (k : Int) < (L.length : Int) := by omega
      have HB0 : Hp wr wr [⟨bx, .cells #[.slice (some ⟨g, 0, none⟩) L.length cap] 173 (0, 0), false⟩, ⟨g, .cells (prow L ++ js).toArray 34 (0, 0), false⟩] := Hp.start ⟨hbox, hrow, trivial⟩ (by simp [hne]) rfl
      have HBL := Lib.hid HB0
      have hboxL := Lib.hid (And.intro hbox hrow)
      clear HB0 hbox hrow
      gi_wp2_with (first
        | ((with_reducible show wpListIn _ _ _ _ _ (Oper.mk _ (Op.indexAddr _ _ _) _ _ _ _ :: _) _ _); refine wpListIn_norm0 rfl ?_; have HH := HBL.out; go_wp2_with (first | ((with_reducible show zW (Op.indexAddr 173 _ _)); refine wpl_valu rfl (run_idx173 (p := k) rfl rfl rfl (by omega) _) ?_; (try simp only [Act.put, zz])) | ((with_reducible show zW (Op.load 34 _)); refine wpl_load HH 1 rfl rfl rfl rfl (prow_get L k _ hk) ?_; (try simp only [Act.put, zz])) | ((with_reducible show zW (Op.store _ _ _)); (refine wpl_store HH 0 rfl rfl rfl rfl rfl rfl rfl rfl ?_; clear HH; intro V HH; simp only [Act.eval, zx, Value.cells, putl, zC, zB] at HH; (try simp only [Act.put, zz]))) | ((with_reducible show zW (Op.alloc _)); refine wpl_alloc HH rfl rfl ?_; clear HH; intro b V HH; simp only [Act.eval, zx, Value.cells, putl, zC, zB] at HH; (try simp only [Act.put, zz])))))
      refine ⟨rfl, ?_⟩
      have hnb := HH.get 0 rfl
      have hb2 := HH.get 1 rfl
      have hg2 := HH.get 2 rfl
      have HO := Hp.sames (l := [_]) (r := [_, _]) HH (by
        intro e he
        simp only [List.mem_cons, List.not_mem_nil, or_false] at he
        rcases he with rfl | rfl
        · exact hboxL.out.1
        · exact hboxL.out.2)
      have hj2 := hJ _ _ _ hj (below_grow (HO.below rfl))
      clear HO HH hj
      have hfL := Lib.hid (And.intro hb2 hg2)
      clear hb2 hg2 hboxL
      obtain ⟨fn, tmps, assign, body, hy, hR⟩ := hY _ L[k] V hj2 (by rw [List.length_take]; omega)
      gi_wp2_with ((with_reducible show wpListIn _ _ _ _ _ (Oper.mk _ (Op.load 34 _) _ _ _ _ :: _) _ _); refine wpListIn_load0 hnb rfl rfl rfl rfl ?_)
      refine hR.mono ?_
      rintro e W3 (⟨rfl, hJ3, hk3⟩ | ⟨rfl, hJx3⟩)
      · gi_wp2
        go_roundw
        case rel =>
          refine ⟨k + 1, by omega, by push_cast; rfl, ?_, hk3.1.trans hfL.out.1, hk3.2.trans hfL.out.2⟩
          rw [List.take_succ_eq_append_getElem hk]
          exact hJ3
        case measure => simp [intOf]; omega
      · gi_wp2
        refine bodyPost_ret (results_none rfl _ _ _) rfl ?_
        exact ⟨⟨_, rfl⟩, .inr ⟨_, trivial, hJx3⟩⟩
    · have hk2 : ¬ (k : Int) < (L.length : Int) := by omega
      gi_wp2
      go_end0
      rw [List.take_of_length_le (by omega)] at hj
      exact ⟨⟨_, rfl⟩, .inl hj⟩

set_option maxRecDepth 100000 in
set_option maxHeartbeats 4000000 in
theorem vals0_in (n bx : Nat) (l : Nat) (J Jx : List Px → World → Prop) (W : World) (hbox : W.heap[bx]? = some (.cells #[.slice none 0 0] 173 (0, 0))) (h0 : J [] W) :
    CallsIn Fence.wide n Tryz.prog 167 #[.func (.yield l) #[] #[], .pointer (some ⟨bx, 0, none⟩)] W fun e W' => (∃ v, e = .returned v) ∧
      ((∃ ys, ys = [] ∧ J ys W') ∨ (∃ pre, True ∧ Jx pre W')) := by
  refine callsIn_of_wp Tryz.func167 rfl trivial ?_ rfl
  simp only [Tryz.ntmps167, List.size_toArray, List.length_cons, List.length_nil, Nat.reduceAdd, Nat.reduceSub, Array.replicate_succ, Array.replicate_zero, List.push_toArray, List.append_toArray, List.nil_append, List.cons_append]
  gi_wp2_with ((with_reducible show wpListIn _ _ _ _ _ (Oper.mk _ (Op.load 173 _) _ _ _ _ :: _) _ _); refine wpListIn_load0 hbox rfl rfl rfl rfl ?_)
  gi_loopw [7] (fun i wr => i = .int .i64 0 ∧ J [] wr) (fun i _ => 0)
  case atStart => exact ⟨rfl, h0⟩
  case round =>
    obtain ⟨rfl, hj⟩ := hrel
    gi_wp2
    go_end0
    exact ⟨⟨_, rfl⟩, .inl ⟨_, rfl, hj⟩⟩
/-- What the loop over Values must keep. -/
def KpR (bx : Nat) (r : List En) (A B : World) : Prop := B.heap[bx]? = A.heap[bx]? ∧ ∀ e ∈ r, B.heap[e.b]? = A.heap[e.b]?
theorem vals_stops {own : Bool} {v : Value} {L : List Px} {r : List En} (HS : SlR 34 12 own v L.length (prow L) r) (hl : L.length ≤ 100000) (n bx : Nat) (w : World) (hbx : w.heap[bx]? = some (.cells #[v] 173 (0, 0))) (hr : ∀ e ∈ r, w.heap[e.b]? = some e.o ∧ e.b ≠ bx) :
    SeqStopsK Fence.wide n Tryz.prog 167 #[.pointer (some ⟨bx, 0, none⟩)] (fun x : Px => #[x.v]) (KpR bx r) (fun xs => xs = L) (fun _ => True) 100000 w := fun l J Jx W hW hJa hJb hY h0 => by
  have hbx2 := (hW.block bx (Array.getElem?_eq_some_iff.1 hbx).1).trans hbx
  rcases HS.2 with ⟨rfl, hn, rfl⟩ | ⟨g, cap, js, rfl, rfl, _⟩
  · obtain rfl : L = [] := List.length_eq_zero_iff.1 hn
    exact vals0_in n bx l J Jx W hbx2 h0
  · have hg := hr _ (List.mem_singleton.2 rfl)
    refine vals1_in n bx g cap L js l J Jx (fun pre A B hj hg => hJa pre A B none hj hg (fun r e => by cases e)) (fun pre x W1 hj hlt => ?_) hl W hbx2 ((hW.block g (Array.getElem?_eq_some_iff.1 hg.1).1).trans hg.1) (Ne.symm hg.2) h0
    obtain ⟨fn, tm, asg, bd, hy, hR⟩ := hY pre x W1 hj hlt
    refine ⟨fn, tm, asg, bd, hy, hR.mono ?_⟩
    rintro e W' (⟨rfl, hj, hk⟩ | ⟨rfl, hj⟩)
    · exact .inl ⟨rfl, hj, hk.1, hk.2 _ (List.mem_singleton.2 rfl)⟩
    · exact .inr ⟨rfl, hj⟩
set_option maxRecDepth 100000 in
theorem vals_gives (a : Option Addr) (n c : Nat) (w : World) : Calls Tryz.prog 147 #[.slice a n c] w fun e w' => e = .returned (.func (.func 167) #[] #[.pointer (some ⟨w.heap.size, 0, none⟩)]) ∧ w' = w.alloc (.cells #[.slice a n c] 173) := by
  go_enter Tryz.func147, Tryz.ntmps147
  go_wp2
  go_ret
  exact ⟨rfl, rfl⟩

/-- A tree's block. -/
abbrev TE (T : Nat) (s : Sp) (full : Bool) (n sl bm : Nat) : En := ⟨T, .cells #[.int .i64 s.n, .int .i64 s.d0.k, .int .i64 s.d0.s, .int .i64 s.d0.t, .int .i64 s.d1.k, .int .i64 s.d1.s, .int .i64 s.d1.t, .bool full, .int .u64 (n : Int), .int .u64 (sl : Int), .map (some bm)] 92 (0, 0), true⟩

set_option maxRecDepth 100000 in
set_option maxHeartbeats 4000000 in
theorem up_walk2 (s : Sp) (p : Px) (full : Bool) (n sl bm T m : Nat) (xs : List Value) (hall : GivesS 148 #[s.v, p.v] 34 12 m xs) {w0 w : World} {l : List En} (HH : Hp w0 w (TE T s full n sl bm :: l)) : Calls Tryz.prog 137 #[.pointer (some ⟨T, 0, none⟩), p.v] w fun e w' => ∃ b v r, e = .returned (.func (.func 167) #[] #[.pointer (some ⟨b, 0, none⟩)]) ∧ SlR 34 12 true v m xs r ∧ Hp w0 w' (⟨b, .cells #[v] 173 (0, 0), true⟩ :: r ++ (TE T s full n sl bm :: l)) := by
  have HALL := hall
  clear hall
  go_enter Tryz.func137, Tryz.ntmps137
  go_wp2_with (first | (go_at_call 148; (with_reducible refine (HALL _).mono ?_); rintro e V ⟨v, r, rfl, HS, hh⟩; obtain ⟨a9, c9, rfl⟩ := HS.form; replace HH := (HH.join hh HS.own).comm; clear hh; (try simp only [Act.put, zz])) | (go_at_call 147; (with_reducible refine (vals_gives _ _ _ _).mono ?_); rintro e V ⟨rfl, rfl⟩; replace HH := HH.alloc (.cells #[.slice a9 m c9] 173); (try simp only [Act.put, zz])) | ((with_reducible show zW (Op.box _ _)); refine wpl_box HH rfl rfl rfl ?_; clear HH; intro b V HH; simp only [Act.eval, zx, Value.cells, putl, zC, zB] at HH; (try simp only [Act.put, zz])) | ((with_reducible show Code.wp _ (Code.region _ _ true) _ _ _); (refine wp_tail_Hp (id := 1) [0, 1, 2, 3, 4] [5, 6, 7] (by kernel_rfl) HH ?_; clear HH; (try dsimp only); (try simp only [pick, zy]); repeat' (first | ((with_reducible show wpB _ _ _ _ [] _); refine wpB_nil ?_; intro V HH; (try simp only [pick, zy]); (try simp only [Act.put, zz]); (try simp only [Value.cells] at HH)) | (((with_reducible show zU _); (first | ((with_reducible show zT (Op.move _)); refine wpB_move rfl rfl rfl ?_) | ((with_reducible show zT (Op.load _ _)); (first | refine wpB_load 0 rfl rfl rfl rfl rfl ?_ | refine wpB_load 1 rfl rfl rfl rfl rfl ?_)) | (refine wpB_val (v := ?_) rfl ?_ ?_; rotate_left; (focus (intro w9 hS9; go_simp; all_goals (with_reducible rfl)))))); all_goals (try simp only [Act.put, zz, Act.eval, zx]))))))
  go_ret
  refine ⟨_, _, r, rfl, HS, ?_⟩
  exact (HH.lose 1 rfl rfl).perm (List.Perm.cons _ (List.perm_append_comm (l₁ := TE T s full n sl bm :: l)))

theorem fold1 (p1 : Tmp) (x : Px) (t : Array Value) : ((#[p1] : Array Tmp).zip #[x.v]).foldl (fun t (p, v) => t.setIfInBounds p v) t = t.setIfInBounds p1 x.v := by
  simp
theorem range_vals {g : Operand} {p1 : Tmp} {assign body : Code} {Q : Exit → Act → World → Prop} {a : Act} {w : World} {own : Bool} {v : Value} {L : List Px} {r : List En} (HS : SlR 34 12 own v L.length (prow L) r) (hl : L.length ≤ 100000) (bx : Nat) (hbx : w.heap[bx]? = some (.cells #[v] 173 (0, 0))) (hr : ∀ e ∈ r, w.heap[e.b]? = some e.o ∧ e.b ≠ bx)
    (hg : a.eval g = .func (.func 167) #[] #[.pointer (some ⟨bx, 0, none⟩)]) 
    (I : List Px → World → Prop) (hI : OwnFrom w.heap.size I) (h0 : I [] w) (Ax : Act → Px → Act → World → Prop) (hAx : ∀ x a', OwnFrom w.heap.size (fun (_ : Unit) W => Ax a x a' W))
    (hassign : ∀ (l : Nat) (pre : List Px) (x : Px) (W : World) (K : Act → World → Prop), I pre W → (∀ a' W', KeepsFrom w.heap.size W W' → KpR bx r W W' → I pre W' → Ax a x a' W' → K a' W') →
      assign.wpIn (Fence.wide.inRound l) 3 Tryz.prog (Exit.then K (fun _ _ _ => False)) { tmps := a.tmps.setIfInBounds p1 x.v, defers := [] } W)
    (hbody : ∀ (l : Nat) (pre : List Px) (x : Px) (a' : Act) (W : World), I pre W → Ax a x a' W → pre.length < 100000 → body.wpIn (Fence.wide.inRound l) 3 Tryz.prog (ownPostG w.heap.size (KpR bx r) I (fun _ _ _ => False) (pre ++ [x]) W) a' W)
    (hdone : ∀ (D : Nat) (W : World), w.heap.size ≤ D → I L W → W.heap[D]? = some (.deferred (some [])) → Q .normal { a with defers := { target := .collected D, args := #[] } :: a.defers } W) :
    (Code.rangeFunc g #[p1] assign body).wp Tryz.prog Q a w := by
  refine (wpIn_wide (n := 5)).1 ?_
  have hlt := (Array.getElem?_eq_some_iff.1 hbx).1
  refine wpIn_rangeFunc_ownH (F := Fence.wide) (n := 5) (Kp := KpR bx r) (encs := fun x : Px => #[x.v]) (w0 := w) rfl (by decide) (gf := 167) (lb := #[.pointer (some ⟨bx, 0, none⟩)]) hg trivial (enters_of Tryz.func167 (by kernel_rfl) rfl)
    (vals_stops HS hl 4 bx w hbx hr) (fun h k => ⟨k.1.trans h.1, fun e he => (k.2 e he).trans (h.2 e he)⟩) (fun W l o o' hl ho _ _ => ?_) (Below.refl _ _) (fun x => rfl) I (fun _ _ _ => False) hI (fun _ _ _ _ _ hs _ _ => hs) h0 (Ax a) hAx (fun l pre x W K hi hK => by rw [fold1]; exact hassign l pre x W K hi hK) (fun l pre x a' W _ _ hi hax hl => hbody l pre x a' W hi hax hl) (fun D xs W h1 h2 h3 h4 => hdone D W h1 (by rw [← h2]; exact h3) h4) (fun _ _ _ _ _ _ h _ => h.elim)
  refine ⟨World.putObj_heap_other (by omega), fun e he => World.putObj_heap_other ?_⟩
  have := (Array.getElem?_eq_some_iff.1 (hr e he).1).1
  omega
/-! Heaplets whose frame is not looked at. -/
theorem Hp.grown2 {w W W' : World} {row : Option Nat} {l : List En} (B : Nat) (h : Hp w W l) (hc : ∀ e ∈ l, e.o.isCells = true ∨ e.b < B) (hg : W.grownBy W' row) (hr : ∀ r, row = some r → B ≤ r ∧ w.heap.size ≤ r ∧ ∃ o : Obj, W.heap[r]? = some o ∧ o.isCells = false) : Hp w W' l := by
  have hne : ∀ e ∈ l, some e.b ≠ row := fun e he hb => by
    obtain ⟨h1, _, o, ho, hf⟩ := hr e.b hb.symm
    rcases hc e he with h2 | h2
    · rw [h.lies.mem e he] at ho
      cases ho
      rw [h2] at hf
      cases hf
    · omega
  refine ⟨Lies.of fun e he => by rw [hg.block e.b (h.lt e he) (hne e he)]; exact h.lies.mem e he, h.nodup, h.own, hg.os.trans h.os, hg.tape.trans h.tape, hg.output.trans h.output, Nat.le_trans h.size hg.size, fun k hk hn => ?_⟩
  rw [hg.block k (Nat.lt_of_lt_of_le hk h.size) (fun hb => by have := (hr k hb.symm).2.1; omega)]
  exact h.rest k hk hn
theorem Hp.keeps2 {W V : World} {l : List En} (B : Nat) (h : Hp W V l) (hc : ∀ e ∈ l, e.own = true ∨ e.b < B ∨ ∃ o : Obj, W.heap[e.b]? = some o ∧ o.isCells = true) : KeepsFrom B W V :=
  ⟨h.size, fun k o hB hk hf => by
    rw [h.rest k (Array.getElem?_eq_some_iff.1 hk).1 (fun e he hb => by
      subst hb
      rcases hc e he with ho | ho | ⟨o', ho', hf'⟩
      · have := h.own e he ho
        have := (Array.getElem?_eq_some_iff.1 hk).1
        omega
      · omega
      · rw [ho'] at hk
        cases hk
        rw [hf] at hf'
        cases hf')]
    exact hk⟩
/-- Two counts, one behind the other; the flags are told anew. -/
theorem Hp.then2 {w W V : World} {l l' l2 : List En} (hA : Hp w W l) (hB : Hp W V l') (hm : l2.map (fun e => (e.b, e.o)) = l'.map (fun e => (e.b, e.o))) (ho : ∀ e ∈ l2, e.own = true → w.heap.size ≤ e.b) (hall : ∀ e ∈ l, e.own = true ∨ ∃ e' ∈ l', e'.b = e.b) : Hp w V l2 := by
  have hmem : ∀ e ∈ l2, ∃ e' ∈ l', e'.b = e.b ∧ e'.o = e.o := fun e he => by
    have h1 : (e.b, e.o) ∈ l'.map (fun e => (e.b, e.o)) := by
      rw [← hm]
      exact List.mem_map_of_mem (f := fun e : En => (e.b, e.o)) he
    obtain ⟨e', he', hx⟩ := List.mem_map.1 h1
    exact ⟨e', he', congrArg Prod.fst hx, congrArg Prod.snd hx⟩
  have hmem2 : ∀ e' ∈ l', ∃ e ∈ l2, e.b = e'.b := fun e' he => by
    have h1 : (e'.b, e'.o) ∈ l2.map (fun e => (e.b, e.o)) := by
      rw [hm]
      exact List.mem_map_of_mem (f := fun e : En => (e.b, e.o)) he
    obtain ⟨e, he, hx⟩ := List.mem_map.1 h1
    exact ⟨e, he, congrArg Prod.fst hx⟩
  refine ⟨Lies.of fun e he => ?_, ?_, ho, hB.os.trans hA.os, hB.tape.trans hA.tape, hB.output.trans hA.output, Nat.le_trans hA.size hB.size, fun k hk hn => ?_⟩
  · obtain ⟨e', he', h1, h2⟩ := hmem e he
    rw [← h1, ← h2]
    exact hB.lies.mem e' he'
  · have := hB.nodup
    have h1 : l2.map En.b = l'.map En.b := by
      have := congrArg (List.map Prod.fst) hm
      rw [List.map_map, List.map_map] at this
      exact this
    rw [h1]
    exact this
  · rw [hB.rest k (Nat.lt_of_lt_of_le hk hA.size) (fun e' he hb => by
      obtain ⟨e, he2, hx⟩ := hmem2 e' he
      exact hn e he2 (hx.trans hb))]
    exact hA.rest k hk (fun e he hb => by
      rcases hall e he with h9 | ⟨e', he', hx⟩
      · have := hA.own e he h9
        omega
      · obtain ⟨e2, he2, hy⟩ := hmem2 e' he'
        exact hn e2 he2 (hy.trans (hx.trans hb)))
theorem Hp.roundG {w W V : World} {l l' : List En} (l2 : List En) {B : Nat} (HR : Hp w W l) (HX : Hp W V l') (hm : l2.map (fun e => (e.b, e.o)) = l'.map (fun e => (e.b, e.o))) (hf : ∀ e ∈ l', e.own = true ∨ ∃ e0 ∈ l, e0.b = e.b) (ho : ∀ e ∈ l2, e.own = true → w.heap.size ≤ e.b) (hall : ∀ e ∈ l, e.own = true ∨ ∃ e' ∈ l', e'.b = e.b) (hc : ∀ e ∈ l, e.o.isCells = true ∨ e.b < B) : KeepsFrom B W V ∧ Hp w V l2 :=
  ⟨HX.keeps2 B fun e he => by
    rcases hf e he with h | ⟨e0, he0, hb⟩
    · exact .inl h
    · rcases hc e0 he0 with h | h
      · exact .inr (.inr ⟨e0.o, by rw [← hb]; exact HR.lies.mem e0 he0, h⟩)
      · exact .inr (.inl (by rw [← hb]; exact h)), HR.then2 HX hm ho hall⟩
theorem Hp.adding2 {W : World} {l : List En} (h : Hp W W l) {b : Nat} {o : Obj} (hb : W.heap[b]? = some o) (hl : l.all (fun e => !e.own) = true) (hne : ∀ e ∈ l, e.b ≠ b) : Hp W W (⟨b, o, false⟩ :: l) :=
  Hp.start ⟨hb, h.lies⟩ (List.nodup_cons.2 ⟨fun hm => by
    obtain ⟨e, he, hbe⟩ := List.mem_map.1 hm
    exact hne e he hbe, h.nodup⟩) (by rw [List.all_cons, hl]; rfl)

def missL (full : Bool) (mm : List (Me (Nat × Nat))) (p : Px) (L : List Px) : List Px := L.filter fun q => !(mget mm q).isSome && (full || q.same p)
theorem missL_snoc (full : Bool) (mm : List (Me (Nat × Nat))) (p : Px) (L : List Px) (q : Px) : missL full mm p (L ++ [q]) = missL full mm p L ++ if !(mget mm q).isSome && (full || q.same p) then [q] else [] := by
  unfold missL
  rw [List.filter_append]
  congr 1
  cases h : (!(mget mm q).isSome && (full || q.same p)) <;> simp only [List.filter_cons, h, List.filter_nil] <;> rfl
theorem missL_le (full : Bool) (mm : List (Me (Nat × Nat))) (p : Px) (L : List Px) : (missL full mm p L).length ≤ L.length := List.length_filter_le _ _

set_option maxRecDepth 100000 in
set_option maxHeartbeats 4000000 in
theorem miss_walk (s : Sp) (p : Px) (full : Bool) (n sl bm T c : Nat) (mm : List (Me (Nat × Nat))) (L : List Px) (hl : L.length ≤ 100000) (hall : GivesS 148 #[s.v, p.v] 34 12 L.length (prow L)) {w0 w : World} {l : List En} (HH : Hp w0 w (TE T s full n sl bm :: ⟨bm, mp encG mm c, true⟩ :: l)) : Calls Tryz.prog 131 #[.pointer (some ⟨T, 0, none⟩), p.v] w fun e w' => ∃ v r, e = .returned v ∧ SlR 34 12 true v (missL full mm p L).length (prow (missL full mm p L)) r ∧ Hp w0 w' (r ++ (TE T s full n sl bm :: ⟨bm, mp encG mm c, true⟩ :: l)) := by
  have HALL := hall
  clear hall
  refine callsIn_wide.1 (callsIn_of_wp_marks (n := 5) Tryz.func131 rfl trivial ?_ rfl)
  simp only [Tryz.ntmps131, List.size_toArray, List.length_cons, List.length_nil, Nat.reduceAdd, Nat.reduceSub, Array.replicate_succ, Array.replicate_zero, List.push_toArray, List.append_toArray, List.nil_append, List.cons_append]
  refine wpIn_wide.2 ?_
  go_wp2_with (first | (go_at_call 137; refine (up_walk2 s p full n sl bm T _ _ HALL (HH.perm (List.perm_append_comm_assoc [_, _, _] [_] _))).mono ?_; rintro e V ⟨bq, vq, rq, rfl, HS, HH2⟩; clear HH; have HH := HH2; clear HH2; (try simp only [Act.put, zz])) | ((with_reducible show zX (Op.load _ _)); (first | (refine wpl_load HH 1 rfl rfl rfl rfl rfl ?_; (try simp only [Act.put, zz])) | (refine wpl_load HH 2 rfl rfl rfl rfl rfl ?_; (try simp only [Act.put, zz])))) | ((with_reducible show zW (Op.box _ _)); refine wpl_box HH rfl rfl rfl ?_; clear HH; intro b V HH; simp only [Act.eval, zx, Value.cells, putl, zC, zB] at HH; (try simp only [Act.put, zz])) | ((with_reducible show zW (Op.alloc _)); refine wpl_alloc HH rfl rfl ?_; clear HH; intro b V HH; simp only [Act.eval, zx, Value.cells, putl, zC, zB] at HH; (try simp only [Act.put, zz])))
  have HZ : Hp w0 V (⟨b, .cells #[.slice none 0 0] 173 (0, 0), true⟩ :: (⟨bq, .cells #[vq] 173 (0, 0), true⟩ :: TE T s full n sl bm :: _ :: _ :: ⟨bm, mp encG mm c, true⟩ :: (l ++ rq))) :=
    HH.perm ((List.Perm.cons _ List.perm_append_comm).trans (List.perm_middle (l₁ := [_, _])))
  clear HH
  have hlt0 := HZ.lt
  have hlies := HZ.lies.mem
  have hnd := HZ.nodup
  obtain ⟨L0, hL0⟩ : ∃ L0, (Hp.lst HZ).tail = L0 := ⟨_, rfl⟩
  dsimp only [Hp.lst, List.tail] at hL0
  obtain ⟨V0, hV0⟩ : ∃ V0, V0 = V := ⟨_, rfl⟩
  obtain ⟨b0, hb0⟩ : ∃ b0, b0 = b := ⟨_, rfl⟩
  subst hV0 hb0
  have hsz := HZ.size
  have hHZ := Lib.hid HZ
  have hhq : V0.heap[bq]? = some (.cells #[vq] 173 (0, 0)) := hlies ⟨bq, .cells #[vq] 173 (0, 0), true⟩ (by simp)
  have hrq : ∀ e ∈ rq, V0.heap[e.b]? = some e.o ∧ e.b ≠ bq := fun e he => ⟨hlies e (by simp [he]), fun hb => by
    simp only [List.map_cons, List.map_append, List.nodup_cons, List.mem_cons, List.mem_append, not_or] at hnd
    exact hnd.2.1.2.2.2.2.2 (by rw [← hb]; exact List.mem_map_of_mem he)⟩
  have hbb : V0.heap[b0]? = some (.cells #[.slice none 0 0] 173 (0, 0)) := hlies ⟨b0, .cells #[.slice none 0 0] 173 (0, 0), true⟩ (by simp)
  have hbV := (Array.getElem?_eq_some_iff.1 hbb).1
  refine range_vals HS hl bq hhq hrq rfl (fun pre W => V0.heap.size ≤ W.heap.size ∧ ∃ v r, SlR 34 12 true v (missL full mm p pre).length (prow (missL full mm p pre)) r ∧ Hp w0 W (⟨b0, .cells #[v] 173 (0, 0), true⟩ :: (L0 ++ r))) ?_ ?_ (fun A x a' W => ∃ Bx, V0.heap.size ≤ Bx ∧ b0 < W.heap.size ∧ W.heap[Bx]? = some (.cells #[.int .i64 x.a0, .int .i64 x.a1, .int .i64 x.k0.k, .int .i64 x.k0.l, .int .u64 (x.k0.hi : Int), .int .u64 (x.k0.lo : Int), .string x.k0.p, .int .i64 x.k1.k, .int .i64 x.k1.l, .int .u64 (x.k1.hi : Int), .int .u64 (x.k1.lo : Int), .string x.k1.p] 34 (0, 0)) ∧ (∀ g n cap, W.heap[b0]? = some (.cells #[.slice (some ⟨g, 0, none⟩) n cap] 173 (0, 0)) → Bx ≠ g) ∧ a' = { tmps := (A.tmps.setIfInBounds 12 x.v).setIfInBounds 6 (.pointer (some ⟨Bx, 0, none⟩)), defers := [] }) ?_ ?_ ?_ ?_
  · intro pre A B row hI hg hr
    obtain ⟨hVW, v, r, HS2, HR⟩ := hI
    refine ⟨Nat.le_trans hVW hg.size, v, r, HS2, HR.grown2 V0.heap.size (fun e he => ?_) hg (fun k e => ⟨(hr k e).1, Nat.le_trans hsz (hr k e).1, (hr k e).2⟩)⟩
    rcases List.mem_cons.1 he with rfl | he
    · exact .inl rfl
    rcases List.mem_append.1 he with he | he
    · refine .inr (hlt0 e (List.mem_cons_of_mem _ ?_))
      rw [← hL0] at he
      exact he
    · exact .inl (HS2.isC e he).1
  · refine ⟨Nat.le_refl _, .slice none 0 0, [], SlR.nil _ _ _, ?_⟩
    rw [List.append_nil, ← hL0]
    exact hHZ.out
  · intro x a' _ A B row hI hg hr
    obtain ⟨Bx, h1, h2, h3, h4, h5⟩ := hI
    have hbe : B.heap[b0]? = A.heap[b0]? := hg.block b0 h2 (fun e => by have := (hr b0 e.symm).1; omega)
    refine ⟨Bx, h1, Nat.lt_of_lt_of_le h2 hg.size, (hg.block Bx (Array.getElem?_eq_some_iff.1 h3).1 (fun e => ?_)).trans h3, fun g n cap hh => h4 g n cap (hbe.symm.trans hh), h5⟩
    obtain ⟨_, o, ho, hf⟩ := hr Bx e.symm
    rw [h3] at ho
    cases ho
    cases hf
  · intro lp pre x W K hI hK
    obtain ⟨hVW, v, r, HS2, HR⟩ := hI
    refine wpIn_list_round (by rintro ⟨a, w, h⟩; exact h) rfl ?_
    simp only [zA, zB, zC]
    refine wpl_alloc (Hp.nil W) rfl rfl ?_
    intro Bx V2 HH2
    refine wpl_store (v := x.v) HH2 0 rfl rfl rfl rfl rfl rfl rfl rfl ?_
    intro V3 HH3
    refine wpList_empty ?_
    simp only [zB] at HH3
    have hB3 := HH3.below rfl
    have hBx : W.heap.size ≤ Bx := HH3.own _ (List.mem_singleton.2 rfl) rfl
    have hbW : b0 < W.heap.size := Nat.lt_of_lt_of_le hbV hVW
    have hkeep : ∀ k, k < V0.heap.size → V3.heap[k]? = W.heap[k]? := fun k hk => hB3.block k (by omega)
    refine hK _ _ (HH3.keeps2 _ (fun e he => .inl (by rw [List.mem_singleton.1 he]))) ⟨hkeep _ (Array.getElem?_eq_some_iff.1 hhq).1, fun e he => hkeep _ (Array.getElem?_eq_some_iff.1 (hrq e he).1).1⟩ ⟨Nat.le_trans hVW hB3.size, v, r, HS2, HR.next hB3⟩ ⟨Bx, Nat.le_trans hVW hBx, Nat.lt_of_lt_of_le hbW hB3.size, HH3.lies.1, fun g n cap hh => ?_, ?_⟩
    · rw [hkeep b0 hbV, HR.lies.1] at hh
      injection hh with hh
      injection hh with hh
      simp only [Array.mk.injEq, List.cons.injEq, and_true] at hh
      subst hh
      rcases HS2.2 with ⟨h1, _⟩ | ⟨g', cap', js, h1, rfl, _⟩
      · cases h1
      · cases h1
        have := HR.lt ⟨g, _, true⟩ (List.mem_cons_of_mem _ (List.mem_append_right _ (List.mem_singleton.2 rfl)))
        simp only at this
        omega
    · simp only [Act.put, zA, zB, zC]
  · intro lp pre x a' W hI hax hlen
    obtain ⟨hVW, v, r, HS2, HR⟩ := hI
    obtain ⟨Bx, hBx, _, hBX, hBg, rfl⟩ := hax
    have hlen2 := missL_le full mm p pre
    have hsel := missL_snoc full mm p pre x
    have hlL : ∀ e ∈ L0, e.b < V0.heap.size := fun e he => hlt0 e (List.mem_cons_of_mem _ (by rw [← hL0] at he; exact he))
    have HHL := Lib.hid HR
    have HSr := HS2.lend
    have HB0 := HR.rebase.adding2 hBX (by simp [En.lend]) (fun e he => by
      obtain ⟨e', he', rfl⟩ := List.mem_map.1 he
      show e'.b ≠ Bx
      rcases List.mem_cons.1 he' with rfl | he'
      · show b0 ≠ Bx
        omega
      rcases List.mem_append.1 he' with he' | he'
      · have := hlL e' he'
        omega
      · have h9 := he'
        rcases HS2.2 with ⟨_, _, rfl⟩ | ⟨g, cap, js, rfl, rfl, _⟩
        · cases h9
        · rw [List.mem_singleton.1 h9]
          exact Ne.symm (hBg g _ cap HR.lies.1))
    have HOld : ∀ e ∈ r.map En.lend, false = true ∨ W.heap[e.b]? = some e.o := by
      intro e he
      obtain ⟨e', he', rfl⟩ := List.mem_map.1 he
      exact .inr (HR.lies.mem e' (List.mem_cons_of_mem _ (List.mem_append_right _ he')))
    have hBX2 := Lib.hid hBX
    have hhq2 := Lib.hid (And.intro hhq hbb)
    clear HR hBX hhq hbb
    have HH := HB0
    rw [← hL0] at HH
    simp only [List.map_cons, List.map_append, List.map_nil, List.cons_append, List.nil_append, En.lend] at HH
    simp only [zA, zB, zC]
    refine wpIn_block ?_
    refine wpIn_seq ?_
    have HBI := Lib.hid HB0
    have FINN : ∀ (V : World) (e7 : En) (LL : List En), LL = ⟨Bx, .cells #[.int .i64 x.a0, .int .i64 x.a1, .int .i64 x.k0.k, .int .i64 x.k0.l, .int .u64 (x.k0.hi : Int), .int .u64 (x.k0.lo : Int), .string x.k0.p, .int .i64 x.k1.k, .int .i64 x.k1.l, .int .u64 (x.k1.hi : Int), .int .u64 (x.k1.lo : Int), .string x.k1.p] 34 (0, 0), false⟩ :: (⟨b0, .cells #[v] 173 (0, 0), true⟩ :: (L0 ++ r)).map En.lend → e7.own = true → (!(mget mm x).isSome && (full || x.same p)) = false → Hp W V (e7 :: LL) → KeepsFrom V0.heap.size W V ∧ KpR bq rq W V ∧ (V0.heap.size ≤ V.heap.size ∧ ∃ v r, SlR 34 12 true v (missL full mm p (pre ++ [x])).length (prow (missL full mm p (pre ++ [x]))) r ∧ Hp w0 V (⟨b0, .cells #[v] 173 (0, 0), true⟩ :: (L0 ++ r))) := by
      rintro V e7 LL rfl h7 hno HH
      have HO := Hp.sames (l := [e7]) HH HBI.out.lies.mem
      have hB := HO.below (by simp [h7])
      refine ⟨HO.keeps2 _ (fun e he => .inl (by rw [List.mem_singleton.1 he]; exact h7)), ⟨hB.block _ (Nat.lt_of_lt_of_le (Array.getElem?_eq_some_iff.1 hhq2.out.1).1 hVW), fun e he => hB.block _ (Nat.lt_of_lt_of_le (Array.getElem?_eq_some_iff.1 (hrq e he).1).1 hVW)⟩, Nat.le_trans hVW hB.size, v, r, ?_, HHL.out.next hB⟩
      rw [hsel, hno]
      simpa using HS2
    have FINA : ∀ (V : World) (e7 : En) (LL : List En) (a9 : Option Addr) (c9 : Nat) (r2 : List En) (own2 : Bool), LL = L0.map En.lend → e7.own = true → (!(mget mm x).isSome && (full || x.same p)) = true →
        SlR 34 12 own2 (.slice a9 ((missL full mm p pre).length + 1) c9) ((missL full mm p pre).length + 1) (prow (missL full mm p pre) ++ [.int .i64 x.a0, .int .i64 x.a1, .int .i64 x.k0.k, .int .i64 x.k0.l, .int .u64 (x.k0.hi : Int), .int .u64 (x.k0.lo : Int), .string x.k0.p, .int .i64 x.k1.k, .int .i64 x.k1.l, .int .u64 (x.k1.hi : Int), .int .u64 (x.k1.lo : Int), .string x.k1.p]) r2 → (∀ e ∈ r2, e.own = true ∨ ∃ e' ∈ r.map En.lend, e'.b = e.b) →
        Hp W V (e7 :: ⟨Bx, .cells #[.int .i64 x.a0, .int .i64 x.a1, .int .i64 x.k0.k, .int .i64 x.k0.l, .int .u64 (x.k0.hi : Int), .int .u64 (x.k0.lo : Int), .string x.k0.p, .int .i64 x.k1.k, .int .i64 x.k1.l, .int .u64 (x.k1.hi : Int), .int .u64 (x.k1.lo : Int), .string x.k1.p] 34 (0, 0), false⟩ :: ⟨b0, .cells #[.slice a9 ((missL full mm p pre).length + 1) c9] 173 (0, 0), false⟩ :: (LL ++ r2)) → KeepsFrom V0.heap.size W V ∧ KpR bq rq W V ∧ (V0.heap.size ≤ V.heap.size ∧ ∃ v r, SlR 34 12 true v (missL full mm p (pre ++ [x])).length (prow (missL full mm p (pre ++ [x]))) r ∧ Hp w0 V (⟨b0, .cells #[v] 173 (0, 0), true⟩ :: (L0 ++ r))) := by
      rintro V e7 LL a9 c9 r2 own2 rfl h7 hyes HS3 hmb HH
      have HX := (HH.drop h7).same hBX2.out
      have HR := HHL.out
      have hin : ∀ e ∈ (⟨b0, .cells #[.slice a9 ((missL full mm p pre).length + 1) c9] 173 (0, 0), false⟩ :: (L0.map En.lend ++ r2) : List En), e.own = true ∨ ∃ e0 ∈ (⟨b0, .cells #[v] 173 (0, 0), true⟩ :: (L0 ++ r) : List En), e0.b = e.b := by
        intro e he
        rcases List.mem_cons.1 he with rfl | he
        · exact .inr ⟨_, List.mem_cons_self, rfl⟩
        rcases List.mem_append.1 he with he | he
        · obtain ⟨e', he', rfl⟩ := List.mem_map.1 he
          exact .inr ⟨e', List.mem_cons_of_mem _ (List.mem_append_left _ he'), rfl⟩
        · rcases hmb e he with h | ⟨e', he', hb⟩
          · exact .inl h
          · obtain ⟨e2, he2, rfl⟩ := List.mem_map.1 he'
            exact .inr ⟨e2, List.mem_cons_of_mem _ (List.mem_append_right _ he2), hb⟩
      obtain ⟨k1, k2⟩ := Hp.roundG (B := V0.heap.size) (⟨b0, .cells #[.slice a9 ((missL full mm p pre).length + 1) c9] 173 (0, 0), true⟩ :: (L0 ++ r2.map En.mine)) HR HX (by
          simp only [List.map_cons, List.map_append, List.map_map]
          rfl) hin (fun e he ho => by
          rcases List.mem_cons.1 he with rfl | he
          · exact HR.own ⟨b0, .cells #[v] 173 (0, 0), true⟩ List.mem_cons_self rfl
          rcases List.mem_append.1 he with he | he
          · exact HR.own e (List.mem_cons_of_mem _ (List.mem_append_left _ he)) ho
          · obtain ⟨e', he', rfl⟩ := List.mem_map.1 he
            rcases hmb e' he' with h | ⟨e3, he3, hb⟩
            · exact Nat.le_trans HR.size (HX.own e' (List.mem_cons_of_mem _ (List.mem_append_right _ he')) h)
            · obtain ⟨e2, he2, rfl⟩ := List.mem_map.1 he3
              show _ ≤ e'.b
              rw [← hb]
              exact HR.own e2 (List.mem_cons_of_mem _ (List.mem_append_right _ he2)) (HS2.own e2 he2)) (fun e he => by
          rcases List.mem_cons.1 he with rfl | he
          · exact .inl rfl
          rcases List.mem_append.1 he with he | he
          · exact .inr ⟨e.lend, List.mem_cons_of_mem _ (List.mem_append_left _ (List.mem_map_of_mem he)), rfl⟩
          · exact .inl (HS2.own e he)) (fun e he => by
          rcases List.mem_cons.1 he with rfl | he
          · exact .inl rfl
          rcases List.mem_append.1 he with he | he
          · exact .inr (hlL e he)
          · exact .inl (HS2.isC e he).1)
      have hkeep : ∀ e ∈ L0, V.heap[e.b]? = W.heap[e.b]? := fun e he => (k2.lies.mem e (List.mem_cons_of_mem _ (List.mem_append_left _ he))).trans (HR.lies.mem e (List.mem_cons_of_mem _ (List.mem_append_left _ he))).symm
      refine ⟨k1, ⟨hkeep ⟨bq, .cells #[vq] 173 (0, 0), true⟩ (by rw [← hL0]; simp), fun e he => hkeep e (by rw [← hL0]; simp [he])⟩, Nat.le_trans hVW HX.size, _, _, ?_, k2⟩
      rw [hsel, hyes, if_pos rfl, List.length_append, prow_snoc]
      exact HS3.mine
    have hfl : full = true ∨ full = false := by cases full <;> simp
    cases hgx : mget mm x with
    | none =>
      rcases hfl with rfl | rfl
      all_goals
        gi_wp2_with (first
          | ((with_reducible show wpListIn _ _ _ _ _ _ _ _); refine wpListIn_normR rfl ?_; go_wp2_with (first | ((with_reducible show zW (Op.buildSlice 173 _ _)); refine wpl_bs173 HH rfl rfl rfl ?_; clear HH; intro b2 V HH; (try simp only [Act.put, zz])) | (at_builtin; refine wpl_append_any elt173 (l := _ :: _ :: _ :: _ :: _ :: _ :: _ :: _ :: (List.map En.lend l ++ List.map En.lend rq)) HH HSr HOld rfl rfl rfl rfl rfl rfl (by omega) (by omega) ?_; clear HH; intro v2 r2 V own2 HS3 HH hmb; obtain ⟨a9, c9, rfl⟩ := HS3.form; (try simp only [List.cons_append, List.nil_append] at HH); (try simp only [Act.put, zz])) | ((with_reducible show zX (Op.load _ _)); (first | (refine wpl_load HH 1 rfl rfl rfl rfl rfl ?_; (try simp only [Act.put, zz])) | (refine wpl_load HH 2 rfl rfl rfl rfl rfl ?_; (try simp only [Act.put, zz])))) | ((with_reducible show zY (Op.load _ _)); (first | (refine wpl_load HH 1 rfl rfl rfl (by simp only [Region.wanted, yielded, zy, Option.bind_some]; decide) rfl ?_; (try simp only [Act.put, zz])) | (refine wpl_load HH 4 rfl rfl rfl (by simp only [Region.wanted, yielded, zy, Option.bind_some]; decide) rfl ?_; (try simp only [Act.put, zz])) | (refine wpl_load HH 5 rfl rfl rfl (by simp only [Region.wanted, yielded, zy, Option.bind_some]; decide) rfl ?_; (try simp only [Act.put, zz])) | (refine wpl_load HH 6 rfl rfl rfl (by simp only [Region.wanted, yielded, zy, Option.bind_some]; decide) rfl ?_; (try simp only [Act.put, zz])))) | ((with_reducible show zY (Op.binOp BinOp.eql 34 _ _ _)); refine wpl_eq34 rfl (by simp only [Region.wanted, yielded, zy, Option.bind_some]; decide) rfl rfl ?_ ?_; all_goals (intro hq; (try simp only [Act.put, zz]))) | ((with_reducible show zW (Op.store _ _ _)); (refine wpl_store HH 2 rfl rfl rfl rfl rfl rfl rfl rfl ?_; clear HH; intro V HH; simp only [Act.eval, zx, Value.cells, putl, zC, zB] at HH; (try simp only [Act.put, zz])))))
          | ((with_reducible show normQ _ _ _ _); refine ⟨rfl, ?_⟩)
          | ((with_reducible show Code.wpIn _ _ _ (Code.region _ _ true) _ _ _); (refine wp_float_Hp_at (id := 4) [0, 1, 2, 3, 4, 5, 6, 7, 8] [9, 10] [11] _ (by rintro ⟨a, w, h⟩; exact h) (by kernel_rfl) (by kernel_rfl) HH (by (exact fun V h => h)) ?_; clear HH; (try dsimp only); (try simp only [pick, zy]); repeat' (first | ((with_reducible show wpB _ _ _ _ [] _); refine wpB_nil ?_; (try simp only [pick, zy]); (try simp only [Act.put, zz])) | (((with_reducible show zU _); (first | ((with_reducible show zT (Op.move _)); refine wpB_move rfl rfl rfl ?_) | ((with_reducible show zT (Op.lookup 90 _ _ _)); refine wpB_lookN 6 x hgx rfl rfl rfl rfl rfl ?_) | ((with_reducible show zT (Op.load _ _)); (first | refine wpB_load 0 rfl rfl rfl rfl rfl ?_ | refine wpB_load 3 rfl rfl rfl rfl rfl ?_ | refine wpB_load 5 rfl rfl rfl rfl rfl ?_)) | (refine wpB_val (v := ?_) rfl ?_ ?_; rotate_left; (focus (intro w9 hS9; go_simp; all_goals (with_reducible rfl)))))); all_goals (try simp only [Act.put, zz, Act.eval, zx])))); go_wp2_with (first | ((with_reducible show stepQ _ _ _ _ _ _ _); refine stepQ_on HH (by (exact fun V h => h.drop rfl)) ?_; clear HH) | ((with_reducible show wpS _ _ _ _ (_ :: _) _ _); refine wpS_step rfl (fun V HH => ?_)) | ((with_reducible show wpS _ _ _ _ _ _ _); refine wpS_nil ?_; intro V HH; (try dsimp only at HH); (try simp only [pick, zy]); (try simp only [Act.put, zz])) | ((with_reducible show zW (Op.store _ _ _)); (refine wpl_store HH 0 rfl rfl rfl rfl rfl rfl rfl rfl ?_; clear HH; intro V HH; simp only [Act.eval, zx, Value.cells, putl, zC, zB] at HH; (try simp only [Act.put, zz]))) | ((with_reducible show zW (Op.alloc _)); refine wpl_alloc HH rfl rfl ?_; clear HH; intro b V HH; simp only [Act.eval, zx, Value.cells, putl, zC, zB] at HH; (try simp only [Act.put, zz])))))
      · exact FINA V ⟨b, .cells #[.int .u64 0, .int .u64 0] 89 (0, 0), true⟩ _ _ _ _ _ rfl rfl (by simp [hgx]) HS3 hmb (by rw [← hL0]; simp only [List.map_cons, List.map_append, List.cons_append, List.nil_append, List.append_assoc, En.lend] at HH ⊢; exact HH)
      · exact FINA V ⟨b, .cells #[.int .u64 0, .int .u64 0] 89 (0, 0), true⟩ _ _ _ _ _ rfl rfl (by simp [hgx, Px.same, hq]) HS3 hmb (by rw [← hL0]; simp only [List.map_cons, List.map_append, List.cons_append, List.nil_append, List.append_assoc, En.lend] at HH ⊢; exact HH)
      · exact FINN V ⟨b, .cells #[.int .u64 0, .int .u64 0] 89 (0, 0), true⟩ _ rfl rfl (by simp [hgx, Px.same, hq]) (by rw [← hL0]; simp only [List.map_cons, List.map_append, List.cons_append, List.nil_append, List.append_assoc, En.lend] at HH ⊢; exact HH)
    | some u =>
      rcases hfl with rfl | rfl
      all_goals
        gi_wp2_with (first
          | ((with_reducible show wpListIn _ _ _ _ _ _ _ _); refine wpListIn_normR rfl ?_; go_wp2_with (fail))
          | ((with_reducible show normQ _ _ _ _); refine ⟨rfl, ?_⟩)
          | ((with_reducible show Code.wpIn _ _ _ (Code.region _ _ true) _ _ _); (refine wp_float_Hp_at (id := 4) [0, 1, 2, 3, 4, 5, 6, 7, 8] [9, 10] [11] _ (by rintro ⟨a, w, h⟩; exact h) (by kernel_rfl) (by kernel_rfl) HH (by (exact fun V h => h)) ?_; clear HH; (try dsimp only); (try simp only [pick, zy]); repeat' (first | ((with_reducible show wpB _ _ _ _ [] _); refine wpB_nil ?_; (try simp only [pick, zy]); (try simp only [Act.put, zz])) | (((with_reducible show zU _); (first | ((with_reducible show zT (Op.move _)); refine wpB_move rfl rfl rfl ?_) | ((with_reducible show zT (Op.lookup 90 _ _ _)); refine wpB_lookS 6 x hgx rfl rfl rfl rfl rfl ?_) | ((with_reducible show zT (Op.load _ _)); (first | refine wpB_load 0 rfl rfl rfl rfl rfl ?_ | refine wpB_load 3 rfl rfl rfl rfl rfl ?_ | refine wpB_load 5 rfl rfl rfl rfl rfl ?_)) | (refine wpB_val (v := ?_) rfl ?_ ?_; rotate_left; (focus (intro w9 hS9; go_simp; all_goals (with_reducible rfl)))))); all_goals (try simp only [Act.put, zz, Act.eval, zx])))); go_wp2_with (first | ((with_reducible show stepQ _ _ _ _ _ _ _); refine stepQ_on HH (by (exact fun V h => h.drop rfl)) ?_; clear HH) | ((with_reducible show wpS _ _ _ _ (_ :: _) _ _); refine wpS_step rfl (fun V HH => ?_)) | ((with_reducible show wpS _ _ _ _ _ _ _); refine wpS_nil ?_; intro V HH; (try dsimp only at HH); (try simp only [pick, zy]); (try simp only [Act.put, zz])) | ((with_reducible show zW (Op.store _ _ _)); (refine wpl_store HH 0 rfl rfl rfl rfl rfl rfl rfl rfl ?_; clear HH; intro V HH; simp only [Act.eval, zx, Value.cells, putl, zC, zB] at HH; (try simp only [Act.put, zz]))) | ((with_reducible show zW (Op.alloc _)); refine wpl_alloc HH rfl rfl ?_; clear HH; intro b V HH; simp only [Act.eval, zx, Value.cells, putl, zC, zB] at HH; (try simp only [Act.put, zz])))))
      all_goals exact FINN V ⟨b, .cells #[.int .u64 (u.1 : Int), .int .u64 (u.2 : Int)] 89 (0, 0), true⟩ _ rfl rfl (by simp [hgx]) (by rw [← hL0]; simp only [List.map_cons, List.map_append, List.cons_append, List.nil_append, List.append_assoc, En.lend] at HH ⊢; exact HH)
  · intro D W hD hI hK
    obtain ⟨hVW, v, r, HS2, HR⟩ := hI
    obtain ⟨a9, c9, rfl⟩ := HS2.form
    have hlL : ∀ e ∈ L0, e.b < V0.heap.size := fun e he => hlt0 e (List.mem_cons_of_mem _ (by rw [← hL0] at he; exact he))
    have HG := HR.grown2 (B := V0.heap.size) (row := some D) (fun e he => by
      rcases List.mem_cons.1 he with rfl | he
      · exact .inl rfl
      rcases List.mem_append.1 he with he | he
      · exact .inr (hlL e he)
      · exact .inl (HS2.isC e he).1) (grownBy_putObj' W D (.deferred none)) (fun k e => by
      cases e
      exact ⟨hD, Nat.le_trans hsz hD, _, hK, rfl⟩)
    have HGL := Lib.hid HG
    clear HG
    rw [← hL0] at HR
    have HH := HR
    simp only [List.cons_append, List.nil_append] at HH
    go_wp2_with ((with_reducible show zX (Op.load _ _)); (refine wpl_load HH 0 rfl rfl rfl rfl rfl ?_; (try simp only [Act.put, zz])))
    refine ⟨by simp, .inl ⟨_, _, rfl, run_takeDeferred hK, ?_⟩⟩
    refine ⟨.slice a9 (missL full mm p L).length c9, by simp [results, Tryz.f131], _, r, rfl, HS2, ?_⟩
    have HG := HGL.out
    rw [← hL0] at HG
    have H2 := ((((HG.drop rfl).drop rfl).lose 1 rfl rfl).lose 1 rfl rfl)
    exact (H2.perm ((List.perm_append_comm (l₁ := (TE T s full n sl bm :: ⟨bm, mp encG mm c, true⟩ :: l) ++ rq) (l₂ := r)).trans (((List.perm_append_comm (l₁ := TE T s full n sl bm :: ⟨bm, mp encG mm c, true⟩ :: l) (l₂ := rq)).append_left r).trans (List.perm_append_comm_assoc r rq _)))).dropAll HS.own

end Go.Proofs.YtcbahkfbdlhabaaGreatDoor
