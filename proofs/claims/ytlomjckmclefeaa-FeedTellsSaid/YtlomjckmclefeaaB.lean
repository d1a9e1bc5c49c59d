/- The feed: New, Push, Pop, Len, Close. -/
import Derived.Test.YtlomjckmclefeaaA
import Derived.Lib.Hide
namespace Go.Proofs.Ytlomjckmclefeaa
set_option linter.unusedVariables false
set_option linter.unusedSimpArgs false
open Go.Conc Go.RowKit

/-! Push. -/
set_option maxRecDepth 100000 in
theorem push_room (b c n : Nat) (x : Int) (urgent : Bool) (L : List Int) (s r : Nat) (w : World) (hcl : w.cell? ⟨b, 2, none⟩ = some (.bool false)) (hc : w.heap[c]? = some (.chan n (vals L) false s r false))
    (hmade : Calls Try.prog 16 #[.pointer (some ⟨b, 0, none⟩)] w fun e w' => e = .returned (.bool true) ∧ w = w')
    (hlane : Calls Try.prog 17 #[.pointer (some ⟨b, 0, none⟩), .bool urgent] w fun e w' => e = .returned (.chan (some c)) ∧ w = w') (hroom : L.length < n) :
    Calls Try.prog 8 #[.pointer (some ⟨b, 0, none⟩), .int .i64 x, .bool urgent] w fun e w' => e = .returned (.int .i64 0) ∧ w' = w.setChan c n (vals (L ++ [x])) false (s + 1) r false := by
  refine calls_of_loneTo fun cs => ?_
  have e : Frame.enter Try.prog 8 #[.pointer (some ⟨b, 0, none⟩), .int .i64 x, .bool urgent] .normal = (base 8).at ⟨#[.pointer (some ⟨b, 0, none⟩), .int .i64 x, .bool urgent, undef, undef, undef, undef, undef, undef, undef, undef, undef, undef, undef, undef, undef, undef, undef, undef, undef, undef, undef, undef], []⟩ [.code (Try.f8.body.getD .skip)] := by
    simp [Frame.enter, Frame.at, Try.func8, base, Try.f8]
  rw [e]
  refine LoneTo.goes (n := 40) ?_
  simp only [Try.f8, Option.getD_some]
  s_c stepG_seq
  s_reg
  s_op
  s_c stepG_region_end
  s_c stepG_seq
  s_c stepG_block
  s_c stepG_seq
  s_reg
  s_op
  s_stop
  refine loneTo_call #[.pointer (some ⟨b, 0, none⟩)] rfl rfl (by decide) rfl Try.func16 (by kernel_rfl) rfl (by simp [Act.eval]) hmade ?_
  rintro e w1 ⟨rfl, rfl⟩
  refine ⟨_, rfl, ?_⟩
  walk_nrm
  refine LoneTo.goes (n := 40) ?_
  s_op
  s_op
  s_c stepG_region_end
  s_cond false
  s_c stepG_seq
  s_reg
  s_op
  s_op
  s_op
  s_op
  s_op
  s_c stepG_region_end
  s_cond false
  s_c stepG_skip
  s_c stepG_inBlock
  s_c stepG_seq
  s_c stepG_seq
  s_reg
  s_op
  s_op
  s_stop
  refine loneTo_call #[.pointer (some ⟨b, 0, none⟩), .bool urgent] rfl rfl (by decide) rfl Try.func17 (by kernel_rfl) rfl (by simp [Act.eval]) hlane ?_
  rintro e w1 ⟨rfl, rfl⟩
  refine ⟨_, rfl, ?_⟩
  walk_nrm
  refine LoneTo.goes (n := 40) ?_
  s_c stepG_region_end
  s_reg
  s_op
  s_c stepG_region_end
  s_c stepG_seq
  s_reg
  s_stop
  refine LoneTo.step (step_lone_select_send_room (c := c) (v := .int .i64 x) (z' := .int .i64 0) (cap := n) (buf := vals L) (s := s) (r := r) (tm := false)
    (stepG_comm (cases := #[scase c (.int .i64 x) (.int .i64 0)]) (blocking := false) (shape := .select) (w' := w) rfl rfl (by decide) (by simp [go_sem, execOp, scase, Act.eval])) hc (by rw [vals_size]; exact hroom)) ?_
  rw [Frame.finish_at, vals_push]
  walk_nrm
  refine LoneTo.goes (n := 40) ?_
  s_op
  s_op
  s_c stepG_region_end
  s_c stepG_block
  s_cond true
  s_c stepG_seq
  s_reg
  s_op
  s_c stepG_region_end
  s_c stepG_ret'
  s_stop
  exact LoneTo.done ⟨.returned (.int .i64 0), _, rfl, ⟨rfl, rfl⟩, rfl, rfl, rfl, rfl, _, Try.func8, by simp [results, Try.f8, Frame.at]⟩
set_option maxRecDepth 100000 in
theorem push_full (b c n : Nat) (x : Int) (urgent : Bool) (L : List Int) (s r : Nat) (w : World) (hcl : w.cell? ⟨b, 2, none⟩ = some (.bool false)) (hc : w.heap[c]? = some (.chan n (vals L) false s r false))
    (hmade : Calls Try.prog 16 #[.pointer (some ⟨b, 0, none⟩)] w fun e w' => e = .returned (.bool true) ∧ w = w')
    (hlane : Calls Try.prog 17 #[.pointer (some ⟨b, 0, none⟩), .bool urgent] w fun e w' => e = .returned (.chan (some c)) ∧ w = w') (hfull : n ≤ L.length) :
    Calls Try.prog 8 #[.pointer (some ⟨b, 0, none⟩), .int .i64 x, .bool urgent] w fun e w' => e = .returned (.int .i64 5) ∧ w = w' := by
  refine calls_of_loneTo fun cs => ?_
  have e : Frame.enter Try.prog 8 #[.pointer (some ⟨b, 0, none⟩), .int .i64 x, .bool urgent] .normal = (base 8).at ⟨#[.pointer (some ⟨b, 0, none⟩), .int .i64 x, .bool urgent, undef, undef, undef, undef, undef, undef, undef, undef, undef, undef, undef, undef, undef, undef, undef, undef, undef, undef, undef, undef], []⟩ [.code (Try.f8.body.getD .skip)] := by
    simp [Frame.enter, Frame.at, Try.func8, base, Try.f8]
  rw [e]
  refine LoneTo.goes (n := 40) ?_
  simp only [Try.f8, Option.getD_some]
  s_c stepG_seq
  s_reg
  s_op
  s_c stepG_region_end
  s_c stepG_seq
  s_c stepG_block
  s_c stepG_seq
  s_reg
  s_op
  s_stop
  refine loneTo_call #[.pointer (some ⟨b, 0, none⟩)] rfl rfl (by decide) rfl Try.func16 (by kernel_rfl) rfl (by simp [Act.eval]) hmade ?_
  rintro e w1 ⟨rfl, rfl⟩
  refine ⟨_, rfl, ?_⟩
  walk_nrm
  refine LoneTo.goes (n := 40) ?_
  s_op
  s_op
  s_c stepG_region_end
  s_cond false
  s_c stepG_seq
  s_reg
  s_op
  s_op
  s_op
  s_op
  s_op
  s_c stepG_region_end
  s_cond false
  s_c stepG_skip
  s_c stepG_inBlock
  s_c stepG_seq
  s_c stepG_seq
  s_reg
  s_op
  s_op
  s_stop
  refine loneTo_call #[.pointer (some ⟨b, 0, none⟩), .bool urgent] rfl rfl (by decide) rfl Try.func17 (by kernel_rfl) rfl (by simp [Act.eval]) hlane ?_
  rintro e w1 ⟨rfl, rfl⟩
  refine ⟨_, rfl, ?_⟩
  walk_nrm
  refine LoneTo.goes (n := 40) ?_
  s_c stepG_region_end
  s_reg
  s_op
  s_c stepG_region_end
  s_c stepG_seq
  s_reg
  s_stop
  refine LoneTo.step (step_lone_select_send_full (c := c) (v := .int .i64 x) (z' := .int .i64 0) (cap := n) (buf := vals L) (s := s) (r := r) (tm := false)
    (stepG_comm (cases := #[scase c (.int .i64 x) (.int .i64 0)]) (blocking := false) (shape := .select) (w' := w) rfl rfl (by decide) (by simp [go_sem, execOp, scase, Act.eval])) hc (by rw [vals_size]; exact hfull)) ?_
  rw [Frame.finish_at]
  walk_nrm
  refine LoneTo.goes (n := 40) ?_
  s_op
  s_op
  s_c stepG_region_end
  s_c stepG_block
  s_cond false
  s_c stepG_seq
  s_reg
  s_op
  s_c stepG_region_end
  s_c stepG_ret'
  s_stop
  exact LoneTo.done ⟨.returned (.int .i64 5), _, rfl, ⟨rfl, rfl⟩, rfl, rfl, rfl, rfl, _, Try.func8, by simp [results, Try.f8, Frame.at]⟩
set_option maxRecDepth 100000 in
theorem push_shut (b cu cn n : Nat) (U N : List Int) (x : Int) (urgent : Bool) (w : World) (h : FeedAt w b cu cn n U N true) :
    Calls Try.prog 8 #[.pointer (some ⟨b, 0, none⟩), .int .i64 x, .bool urgent] w fun e w' => e = .returned (.int .i64 7) ∧ w = w' := by
  obtain ⟨h0, h1, h2⟩ := h.cells
  have C := Lib.hid (made_any b cu cn n U N true w h)
  clear h
  go_enter Try.func8, Try.ntmps8
  go_wp2_with (go_at_call 16; refine C.out.mono ?_; rintro e w1 ⟨rfl, rfl⟩)
  go_ret
  exact ⟨rfl, rfl⟩
set_option maxRecDepth 100000 in
theorem push_none (p : Option Addr) (x : Int) (urgent : Bool) (w : World) (C : Hid (Calls Try.prog 16 #[.pointer p] w fun e w' => e = .returned (.bool false) ∧ w = w')) :
    Calls Try.prog 8 #[.pointer p, .int .i64 x, .bool urgent] w fun e w' => e = .returned (.int .i64 6) ∧ w = w' := by
  go_enter Try.func8, Try.ntmps8
  go_wp2_with (go_at_call 16; refine C.out.mono ?_; rintro e w1 ⟨rfl, rfl⟩)
  go_ret
  exact ⟨rfl, rfl⟩

def pushE (n : Nat) (U N : List Int) (cl urgent : Bool) : Int := if cl then 7 else if (if urgent then U.length else N.length) < n then 0 else 5
def pushU (n : Nat) (U : List Int) (cl urgent : Bool) (x : Int) : List Int := if cl = false ∧ urgent = true ∧ U.length < n then U ++ [x] else U
def pushN (n : Nat) (N : List Int) (cl urgent : Bool) (x : Int) : List Int := if cl = false ∧ urgent = false ∧ N.length < n then N ++ [x] else N
/-- Push's contract. -/
theorem push_any (b cu cn n : Nat) (U N : List Int) (cl : Bool) (x : Int) (urgent : Bool) (w : World) (h : FeedAt w b cu cn n U N cl) :
    Calls Try.prog 8 #[.pointer (some ⟨b, 0, none⟩), .int .i64 x, .bool urgent] w fun e w' => e = .returned (.int .i64 (pushE n U N cl urgent)) ∧ FeedAt w' b cu cn n (pushU n U cl urgent x) (pushN n N cl urgent x) cl ∧ Upd [cu, cn] w w' := by
  cases cl
  · cases urgent
    · obtain ⟨s, r, hc⟩ := h.usu
      by_cases c : N.length < n
      · refine (push_room b cn n x false N s r w h.cells.2.2 hc (made_any _ _ _ _ _ _ _ _ h) (lane_n _ _ _ _ _ _ _ _ h) c).mono ?_
        rintro e w' ⟨rfl, rfl⟩
        refine ⟨by simp [pushE, c], ?_, (upd_setChan _ _ _ _ _ _ _ _).more (by simp)⟩
        have := h.setN (N' := N ++ [x]) (s + 1) r (by simp; omega)
        simpa [pushU, pushN, c] using this
      · refine (push_full b cn n x false N s r w h.cells.2.2 hc (made_any _ _ _ _ _ _ _ _ h) (lane_n _ _ _ _ _ _ _ _ h) (by omega)).mono ?_
        rintro e w' ⟨rfl, rfl⟩
        refine ⟨by simp [pushE, c], ?_, Upd.refl _ _⟩
        simpa [pushU, pushN, c] using h
    · obtain ⟨s, r, hc⟩ := h.urg
      by_cases c : U.length < n
      · refine (push_room b cu n x true U s r w h.cells.2.2 hc (made_any _ _ _ _ _ _ _ _ h) (lane_u _ _ _ _ _ _ _ _ h) c).mono ?_
        rintro e w' ⟨rfl, rfl⟩
        refine ⟨by simp [pushE, c], ?_, (upd_setChan _ _ _ _ _ _ _ _).more (by simp)⟩
        have := h.setU (U' := U ++ [x]) (s + 1) r (by simp; omega)
        simpa [pushU, pushN, c] using this
      · refine (push_full b cu n x true U s r w h.cells.2.2 hc (made_any _ _ _ _ _ _ _ _ h) (lane_u _ _ _ _ _ _ _ _ h) (by omega)).mono ?_
        rintro e w' ⟨rfl, rfl⟩
        refine ⟨by simp [pushE, c], ?_, Upd.refl _ _⟩
        simpa [pushU, pushN, c] using h
  · refine (push_shut b cu cn n U N x urgent w h).mono ?_
    rintro e w' ⟨rfl, rfl⟩
    exact ⟨by simp [pushE], by simpa [pushU, pushN] using h, Upd.refl _ _⟩

/-! New. -/
theorem bytes3 : ∃ i, Try.prog.info? 3 = some i ∧ i.bytes = 8 := by
  have h : (Try.prog.info? 3).map (·.bytes) = some 8 := by kernel_rfl
  obtain ⟨i, hi, hb⟩ := Option.map_eq_some_iff.1 h
  exact ⟨i, hi, hb⟩
theorem mkchan (n : Nat) (hn : n ≤ 256) (w : World) : (Instr.makeChan 47 (.int .i64 (n : Int))).run Try.prog w = .ok (.chan (some w.heap.size)) (w.alloc (.chan n #[] false 0 0 false)) := by
  obtain ⟨i, hi, hb⟩ := bytes3
  exact run_makeChan (P := Try.prog) (w := w) Try.underlying47 hi .i64 n (by omega) (by rw [hb]; omega)
set_option maxRecDepth 100000 in
theorem new_none (n : Int) (hn : n < 1 ∨ 256 < n) (w : World) : Calls Try.prog 6 #[.int .i64 n] w fun e w' => e = .returned (.pointer none) ∧ w = w' := by
  rcases hn with h | h
  · have d1 : decide (n < 1) = true := decide_eq_true h
    clear h
    go_enter Try.func6, Try.ntmps6
    go_wp2_with fail
    go_ret
    exact ⟨rfl, rfl⟩
  · have d1 : decide (n < 1) = false := decide_eq_false (by omega)
    have d2 : decide (256 < n) = true := decide_eq_true h
    clear h
    go_enter Try.func6, Try.ntmps6
    go_wp2_with fail
    go_ret
    exact ⟨rfl, rfl⟩
theorem feed_new (w : World) (n : Nat) (hn : n ≤ 256) (cu cn : Nat) (h : (cu = w.heap.size ∧ cn = w.heap.size + 1) ∨ (cn = w.heap.size ∧ cu = w.heap.size + 1)) :
    FeedAt (((w.alloc (.chan n #[] false 0 0 false)).alloc (.chan n #[] false 0 0 false)).alloc (.cells #[.chan (some cu), .chan (some cn), .bool false] 49)) (w.heap.size + 1 + 1) cu cn n [] [] false := by
  have e0 : (((w.alloc (.chan n #[] false 0 0 false)).alloc (.chan n #[] false 0 0 false)).alloc (.cells #[.chan (some cu), .chan (some cn), .bool false] 49)).heap[w.heap.size]? = some (.chan n #[] false 0 0 false) := by
    rw [Below.heap_alloc _ _ _ (by simp only [World.size_alloc]; omega), Below.heap_alloc _ _ _ (by simp only [World.size_alloc]; omega)]
    exact heap_alloc_new _ _
  have e1 : (((w.alloc (.chan n #[] false 0 0 false)).alloc (.chan n #[] false 0 0 false)).alloc (.cells #[.chan (some cu), .chan (some cn), .bool false] 49)).heap[w.heap.size + 1]? = some (.chan n #[] false 0 0 false) := by
    rw [Below.heap_alloc _ _ _ (by simp only [World.size_alloc]; omega)]
    have := heap_alloc_new (w.alloc (.chan n #[] false 0 0 false)) (.chan n #[] false 0 0 false)
    simpa only [World.size_alloc] using this
  refine ⟨?_, ?_, ?_, by omega, Nat.zero_le _, Nat.zero_le _, hn⟩
  · have := heap_alloc_new ((w.alloc (.chan n #[] false 0 0 false)).alloc (.chan n #[] false 0 0 false)) (.cells #[.chan (some cu), .chan (some cn), .bool false] 49)
    simpa only [World.size_alloc] using this
  · rcases h with ⟨rfl, rfl⟩ | ⟨rfl, rfl⟩
    · exact ⟨0, 0, e0⟩
    · exact ⟨0, 0, e1⟩
  · rcases h with ⟨rfl, rfl⟩ | ⟨rfl, rfl⟩
    · exact ⟨0, 0, e1⟩
    · exact ⟨0, 0, e0⟩
/-- New's contract: a fresh, empty feed. -/
structure NewFeed (w w' : World) (v : Value) (n : Nat) : Prop where
  ex : ∃ b cu cn, v = .pointer (some ⟨b, 0, none⟩) ∧ FeedAt w' b cu cn n [] [] false ∧ w.heap.size ≤ b ∧ w.heap.size ≤ cu ∧ w.heap.size ≤ cn
  below : Below w.heap.size w w'
theorem newFeed_of (w : World) (n : Nat) (hn : n ≤ 256) (cu cn : Nat) (h : (cu = w.heap.size ∧ cn = w.heap.size + 1) ∨ (cn = w.heap.size ∧ cu = w.heap.size + 1)) :
    NewFeed w (((w.drew.alloc (.chan n #[] false 0 0 false)).alloc (.chan n #[] false 0 0 false)).alloc (.cells #[.chan (some cu), .chan (some cn), .bool false] 49)) (.pointer (some ⟨w.heap.size + 1 + 1, 0, none⟩)) n :=
  ⟨⟨w.heap.size + 1 + 1, cu, cn, rfl, feed_new w.drew n hn cu cn h, by omega, by omega, by omega⟩,
    ((((Below.refl _ w).drew).alloc (Nat.le_refl _) _).alloc (by simp only [World.size_alloc]; exact Nat.le_succ _) _).alloc (by simp only [World.size_alloc]; show w.heap.size ≤ w.heap.size + 1 + 1; omega) _⟩
set_option maxRecDepth 100000 in
theorem new_any (n : Nat) (h1 : 1 ≤ n) (hn : n ≤ 256) (w : World) : Calls Try.prog 6 #[.int .i64 (n : Int)] w fun e w' => ∃ v, e = .returned v ∧ NewFeed w w' v n := by
  have d1 : decide ((n : Int) < 1) = false := decide_eq_false (by omega)
  have d2 : decide ((256 : Int) < n) = false := decide_eq_false (by omega)
  have hm := mkchan n hn
  have HN := Lib.hid (newFeed_of w n hn)
  clear h1 hn
  go_enter Try.func6, Try.ntmps6
  go_wp2_with fail
  go_region
  all_goals (go_wp2_with fail; go_ret)
  · exact ⟨_, rfl, HN.out _ _ (Or.inl ⟨rfl, rfl⟩)⟩
  · exact ⟨_, rfl, HN.out _ _ (Or.inr ⟨rfl, rfl⟩)⟩

end Go.Proofs.Ytlomjckmclefeaa
