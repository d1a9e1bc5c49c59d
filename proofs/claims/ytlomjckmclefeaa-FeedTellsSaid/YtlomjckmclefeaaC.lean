/- The feed: Pop, Len, Close; slices of integers of the call's own. -/
import Derived.Test.YtlomjckmclefeaaB
import Derived.ArgAppend
import Derived.Laws.OwnMore
namespace Go.Proofs.Ytlomjckmclefeaa
set_option linter.unusedVariables false
set_option linter.unusedSimpArgs false
open Go.Conc Go.RowKit

/-! Pop. -/
set_option maxRecDepth 100000 in
set_option maxHeartbeats 1000000 in
theorem pop_u (b cu cn n : Nat) (x : Int) (U N : List Int) (cl : Bool) (w : World) (h : FeedAt w b cu cn n (x :: U) N cl) :
    Calls Try.prog 11 #[.pointer (some ⟨b, 0, none⟩)] w fun e w' => e = .returned (.tuple #[.int .i64 x, .int .i64 0]) ∧ FeedAt w' b cu cn n U N cl ∧ Upd [cu, cn] w w' := by
  obtain ⟨h0, h1, h2⟩ := h.cells
  obtain ⟨s, r, hc⟩ := h.urg
  have C1 := Lib.hid (made_any _ _ _ _ _ _ _ _ h)
  have C2 := Lib.hid (take_some cu n x U cl s r w hc)
  have HE : Hid (FeedAt (w.setChan cu n (vals U) cl s (r + 1) false) b cu cn n U N cl ∧ Upd [cu, cn] w (w.setChan cu n (vals U) cl s (r + 1) false)) :=
    ⟨h.setU s (r + 1) (by have := h.lu; simp at this; omega), (upd_setChan _ _ _ _ _ _ _ _).more (by simp)⟩
  clear h hc
  generalize w.setChan cu n (vals U) cl s (r + 1) false = w2 at *
  go_enter Try.func11, Try.ntmps11
  go_wp2_with (first
    | (go_at_call 16; (with_reducible refine C1.out.mono ?_); rintro e w1 ⟨rfl, rfl⟩)
    | (go_at_call 18; (with_reducible refine C2.out.mono ?_); rintro e w1 ⟨rfl, rfl⟩))
  exact bodyPost_ret (v := .tuple #[.int .i64 x, .int .i64 0]) (by simp [results, Try.results11, go_sem]) rfl ⟨rfl, HE.out⟩
theorem take_nil (c n : Nat) (cl : Bool) (s r : Nat) (w : World) (hc : w.heap[c]? = some (.chan n (vals []) cl s r false)) :
    Calls Try.prog 18 #[.chan (some c)] w fun e w' => e = .returned (.tuple #[.int .i64 0, .bool false]) ∧ w = w' := by
  cases cl
  · exact take_none c n s r w hc
  · exact take_shut c n s r w hc
set_option maxRecDepth 100000 in
set_option maxHeartbeats 1000000 in
theorem pop_n (b cu cn n : Nat) (x : Int) (N : List Int) (cl : Bool) (w : World) (h : FeedAt w b cu cn n [] (x :: N) cl) :
    Calls Try.prog 11 #[.pointer (some ⟨b, 0, none⟩)] w fun e w' => e = .returned (.tuple #[.int .i64 x, .int .i64 0]) ∧ FeedAt w' b cu cn n [] N cl ∧ Upd [cu, cn] w w' := by
  obtain ⟨h0, h1, h2⟩ := h.cells
  obtain ⟨s0, r0, hc0⟩ := h.urg
  obtain ⟨s, r, hc⟩ := h.usu
  have C1 := Lib.hid (made_any _ _ _ _ _ _ _ _ h)
  have C0 := Lib.hid (take_nil cu n cl s0 r0 w hc0)
  have C2 := Lib.hid (take_some cn n x N cl s r w hc)
  have HE : Hid (FeedAt (w.setChan cn n (vals N) cl s (r + 1) false) b cu cn n [] N cl ∧ Upd [cu, cn] w (w.setChan cn n (vals N) cl s (r + 1) false)) :=
    ⟨h.setN s (r + 1) (by have := h.ln; simp at this; omega), (upd_setChan _ _ _ _ _ _ _ _).more (by simp)⟩
  clear h hc hc0
  generalize w.setChan cn n (vals N) cl s (r + 1) false = w2 at *
  go_enter Try.func11, Try.ntmps11
  go_wp2_with (first
    | (go_at_call 16; (with_reducible refine C1.out.mono ?_); rintro e w1 ⟨rfl, rfl⟩)
    | (go_at_call 18; (with_reducible refine C0.out.mono ?_); rintro e w1 ⟨rfl, rfl⟩)
    | (go_at_call 18; (with_reducible refine C2.out.mono ?_); rintro e w1 ⟨rfl, rfl⟩))
  exact bodyPost_ret (v := .tuple #[.int .i64 x, .int .i64 0]) (by simp [results, Try.results11, go_sem]) rfl ⟨rfl, HE.out⟩
set_option maxRecDepth 100000 in
set_option maxHeartbeats 1000000 in
theorem pop_e (b cu cn n : Nat) (cl : Bool) (w : World) (h : FeedAt w b cu cn n [] [] cl) :
    Calls Try.prog 11 #[.pointer (some ⟨b, 0, none⟩)] w fun e w' => e = .returned (.tuple #[.int .i64 0, .int .i64 (if cl then 7 else 4)]) ∧ w = w' := by
  obtain ⟨h0, h1, h2⟩ := h.cells
  obtain ⟨s0, r0, hc0⟩ := h.urg
  obtain ⟨s, r, hc⟩ := h.usu
  have C1 := Lib.hid (made_any _ _ _ _ _ _ _ _ h)
  have C0 := Lib.hid (take_nil cu n cl s0 r0 w hc0)
  have C2 := Lib.hid (take_nil cn n cl s r w hc)
  clear h hc hc0
  cases cl
  · go_enter Try.func11, Try.ntmps11
    go_wp2_with (first
      | (go_at_call 16; (with_reducible refine C1.out.mono ?_); rintro e w1 ⟨rfl, rfl⟩)
      | (go_at_call 18; (with_reducible refine C0.out.mono ?_); rintro e w1 ⟨rfl, rfl⟩)
      | (go_at_call 18; (with_reducible refine C2.out.mono ?_); rintro e w1 ⟨rfl, rfl⟩))
    exact bodyPost_ret (v := .tuple #[.int .i64 0, .int .i64 4]) (by simp [results, Try.results11, go_sem]) rfl ⟨rfl, rfl⟩
  · go_enter Try.func11, Try.ntmps11
    go_wp2_with (first
      | (go_at_call 16; (with_reducible refine C1.out.mono ?_); rintro e w1 ⟨rfl, rfl⟩)
      | (go_at_call 18; (with_reducible refine C0.out.mono ?_); rintro e w1 ⟨rfl, rfl⟩)
      | (go_at_call 18; (with_reducible refine C2.out.mono ?_); rintro e w1 ⟨rfl, rfl⟩))
    exact bodyPost_ret (v := .tuple #[.int .i64 0, .int .i64 7]) (by simp [results, Try.results11, go_sem]) rfl ⟨rfl, rfl⟩
set_option maxRecDepth 100000 in
theorem pop_none (p : Option Addr) (w : World) (C : Hid (Calls Try.prog 16 #[.pointer p] w fun e w' => e = .returned (.bool false) ∧ w = w')) :
    Calls Try.prog 11 #[.pointer p] w fun e w' => e = .returned (.tuple #[.int .i64 0, .int .i64 6]) ∧ w = w' := by
  go_enter Try.func11, Try.ntmps11
  go_wp2_with (go_at_call 16; (with_reducible refine C.out.mono ?_); rintro e w1 ⟨rfl, rfl⟩)
  exact bodyPost_ret (v := .tuple #[.int .i64 0, .int .i64 6]) (by simp [results, Try.results11, go_sem]) rfl ⟨rfl, rfl⟩

def popX (U N : List Int) : Int := (U ++ N).headD 0
def popE (U N : List Int) (cl : Bool) : Int := if (U ++ N).isEmpty then (if cl then 7 else 4) else 0
def popN (U N : List Int) : List Int := if U.isEmpty then N.tail else N
/-- Pop's contract. -/
theorem pop_any (b cu cn n : Nat) (U N : List Int) (cl : Bool) (w : World) (h : FeedAt w b cu cn n U N cl) :
    Calls Try.prog 11 #[.pointer (some ⟨b, 0, none⟩)] w fun e w' => e = .returned (.tuple #[.int .i64 (popX U N), .int .i64 (popE U N cl)]) ∧ FeedAt w' b cu cn n U.tail (popN U N) cl ∧ Upd [cu, cn] w w' := by
  match U, N, h with
  | x :: U, N, h => exact pop_u b cu cn n x U N cl w h
  | [], x :: N, h => exact pop_n b cu cn n x N cl w h
  | [], [], h => exact (pop_e b cu cn n cl w h).mono (by rintro e w' ⟨rfl, rfl⟩; exact ⟨rfl, h, Upd.refl _ _⟩)

/-! Len. -/
set_option maxRecDepth 100000 in
theorem len_any (b cu cn n : Nat) (U N : List Int) (cl : Bool) (w : World) (h : FeedAt w b cu cn n U N cl) :
    Calls Try.prog 12 #[.pointer (some ⟨b, 0, none⟩)] w fun e w' => e = .returned (.int .i64 ((U.length + N.length : Nat) : Int)) ∧ w' = w.drew := by
  obtain ⟨h0, h1, h2⟩ := h.cells
  obtain ⟨s0, r0, hc0⟩ := h.urg
  obtain ⟨s, r, hc⟩ := h.usu
  have C1 := Lib.hid (made_any _ _ _ _ _ _ _ _ h)
  have l0 : ∀ ty, (Builtin.len_ #[47] ty #[.chan (some cu)]).run Try.prog w.drew = .ok (.int .i64 (U.length : Int)) w.drew := fun ty => by
    have := run_len_chan (P := Try.prog) (w := w.drew) 47 ty Try.underlying47 (c := cu) hc0
    rw [vals_size] at this; exact this
  have l1 : ∀ ty, (Builtin.len_ #[47] ty #[.chan (some cn)]).run Try.prog w.drew = .ok (.int .i64 (N.length : Int)) w.drew := fun ty => by
    have := run_len_chan (P := Try.prog) (w := w.drew) 47 ty Try.underlying47 (c := cn) hc
    rw [vals_size] at this; exact this
  have e1 : IntKind.i64.wrap ((U.length : Int) + (N.length : Int)) = ((U.length + N.length : Nat) : Int) := by
    have := h.lu; have := h.ln; have := h.n256
    rw [IntWalk.i64_in _ (by omega)]; omega
  clear h hc hc0
  generalize U.length + N.length = t at *
  generalize U.length = u at *
  generalize N.length = v at *
  go_enter Try.func12, Try.ntmps12
  go_wp2_with (first
    | (go_at_call 16; (with_reducible refine C1.out.mono ?_); rintro e w1 ⟨rfl, rfl⟩))
  go_region
  all_goals (go_wp2_with fail; go_ret)
  all_goals exact ⟨by rfl, rfl⟩
set_option maxRecDepth 100000 in
theorem len_none (p : Option Addr) (w : World) (C : Hid (Calls Try.prog 16 #[.pointer p] w fun e w' => e = .returned (.bool false) ∧ w = w')) :
    Calls Try.prog 12 #[.pointer p] w fun e w' => e = .returned (.int .i64 0) ∧ w = w' := by
  go_enter Try.func12, Try.ntmps12
  go_wp2_with (go_at_call 16; (with_reducible refine C.out.mono ?_); rintro e w1 ⟨rfl, rfl⟩)
  go_ret
  exact ⟨rfl, rfl⟩

/-! Close. -/
theorem closed_feed (b cu cn n : Nat) (U N : List Int) (s0 r0 s r : Nat) (w : World) (h : FeedAt w b cu cn n U N false) :
    FeedAt (((w.setCell ⟨b, 2, none⟩ (.bool true)).setChan cu n (vals U) true s0 r0 false).setChan cn n (vals N) true s r false) b cu cn n U N true ∧
    Upd [b, cu, cn] w (((w.setCell ⟨b, 2, none⟩ (.bool true)).setChan cu n (vals U) true s0 r0 false).setChan cn n (vals N) true s r false) := by
  have hb := h.box
  have hlt := h.lt
  have hbu := h.b_ne_u
  have hbn := h.b_ne_n
  have hne := h.ne
  have e1 : (w.setCell ⟨b, 2, none⟩ (.bool true)).heap[b]? = some (.cells #[.chan (some cu), .chan (some cn), .bool true] 49 (0, 0)) := by
    simp [World.setCell, Array.getElem?_modify, hb]
  have hs : (w.setCell ⟨b, 2, none⟩ (.bool true)).heap.size = w.heap.size := by simp [World.setCell]
  refine ⟨⟨?_, ⟨s0, r0, ?_⟩, ⟨s, r, ?_⟩, hne, h.lu, h.ln, h.n256⟩, ⟨rfl, rfl, rfl, ?_, fun k hk hl => ?_⟩⟩
  · rw [heap_setChan_other _ _ _ _ _ _ _ _ _ hbn.symm, heap_setChan_other _ _ _ _ _ _ _ _ _ hbu.symm]; exact e1
  · rw [heap_setChan_other _ _ _ _ _ _ _ _ _ hne.symm]; exact heap_setChan _ _ _ _ _ _ _ _ (by rw [hs]; exact hlt.2.1)
  · exact heap_setChan _ _ _ _ _ _ _ _ (by rw [size_setChan, hs]; exact hlt.2.2)
  · rw [size_setChan, size_setChan, hs]; exact Nat.le_refl _
  · simp only [List.mem_cons, List.not_mem_nil, or_false, not_or] at hl
    rw [heap_setChan_other _ _ _ _ _ _ _ _ _ (Ne.symm hl.2.2), heap_setChan_other _ _ _ _ _ _ _ _ _ (Ne.symm hl.2.1)]
    exact Below.heap_setCell _ _ _ _ hl.1
set_option maxRecDepth 100000 in
theorem close_open (b cu cn n : Nat) (U N : List Int) (w : World) (h : FeedAt w b cu cn n U N false) :
    Calls Try.prog 9 #[.pointer (some ⟨b, 0, none⟩)] w fun e w' => e = .returned (.int .i64 0) ∧ FeedAt w' b cu cn n U N true ∧ Upd [b, cu, cn] w w' := by
  obtain ⟨h0, h1, h2⟩ := h.cells
  obtain ⟨s0, r0, hc0⟩ := h.urg
  obtain ⟨s, r, hc⟩ := h.usu
  have C1 := Lib.hid (made_any _ _ _ _ _ _ _ _ h)
  have HE := Lib.hid (closed_feed b cu cn n U N s0 r0 s r w h)
  have hb := h.box
  have hbu := h.b_ne_u
  have hbn := h.b_ne_n
  have hne := h.ne
  have hf : w.frozen? ⟨b, 2, none⟩ = false := by simp [World.frozen?, hb]
  have e1 : (w.setCell ⟨b, 2, none⟩ (.bool true)).heap[b]? = some (.cells #[.chan (some cu), .chan (some cn), .bool true] 49 (0, 0)) := by
    simp [World.setCell, Array.getElem?_modify, hb]
  have e2 : (w.setCell ⟨b, 2, none⟩ (.bool true)).heap[cu]? = some (.chan n (vals U) false s0 r0 false) := (Below.heap_setCell _ _ _ _ hbu.symm).trans hc0
  have e3 : (w.setCell ⟨b, 2, none⟩ (.bool true)).heap[cn]? = some (.chan n (vals N) false s r false) := (Below.heap_setCell _ _ _ _ hbn.symm).trans hc
  obtain ⟨w1, hw1⟩ : ∃ w1, w.setCell ⟨b, 2, none⟩ (.bool true) = w1 := ⟨_, rfl⟩
  rw [hw1] at HE e1 e2 e3
  have e4 : (w1.setChan cu n (vals U) true s0 r0 false).heap[b]? = some (.cells #[.chan (some cu), .chan (some cn), .bool true] 49 (0, 0)) := (heap_setChan_other _ _ _ _ _ _ _ _ _ hbu.symm).trans e1
  have e5 : (w1.setChan cu n (vals U) true s0 r0 false).heap[cn]? = some (.chan n (vals N) false s r false) := (heap_setChan_other _ _ _ _ _ _ _ _ _ hne).trans e3
  have k1 : ∀ ats ty, (Builtin.close_ ats ty #[.chan (some cu)]).run Try.prog w1 = .ok (.tuple #[]) (w1.setChan cu n (vals U) true s0 r0 false) := fun ats ty => run_close_open ats ty e2
  generalize w1.setChan cu n (vals U) true s0 r0 false = w2 at *
  have k2 : ∀ ats ty, (Builtin.close_ ats ty #[.chan (some cn)]).run Try.prog w2 = .ok (.tuple #[]) (w2.setChan cn n (vals N) true s r false) := fun ats ty => run_close_open ats ty e5
  generalize w2.setChan cn n (vals N) true s r false = w3 at *
  have a1 : w1.cell? ⟨b, 0, none⟩ = some (.chan (some cu)) := by simp [World.cell?, e1]
  have a2 : w2.cell? ⟨b, 1, none⟩ = some (.chan (some cn)) := by simp [World.cell?, e4]
  clear h hb hbu hbn hne e1 e2 e3 e4 e5 hc hc0
  go_enter Try.func9, Try.ntmps9
  go_wp2_with (first
    | (go_at_call 16; (with_reducible refine C1.out.mono ?_); rintro e w1 ⟨rfl, rfl⟩))
  go_ret
  exact ⟨rfl, HE.out⟩
set_option maxRecDepth 100000 in
theorem close_shut (b cu cn n : Nat) (U N : List Int) (w : World) (h : FeedAt w b cu cn n U N true) :
    Calls Try.prog 9 #[.pointer (some ⟨b, 0, none⟩)] w fun e w' => e = .returned (.int .i64 7) ∧ w = w' := by
  obtain ⟨h0, h1, h2⟩ := h.cells
  have C1 := Lib.hid (made_any _ _ _ _ _ _ _ _ h)
  clear h
  go_enter Try.func9, Try.ntmps9
  go_wp2_with (first
    | (go_at_call 16; (with_reducible refine C1.out.mono ?_); rintro e w1 ⟨rfl, rfl⟩))
  go_ret
  exact ⟨rfl, rfl⟩
set_option maxRecDepth 100000 in
theorem close_none (p : Option Addr) (w : World) (C : Hid (Calls Try.prog 16 #[.pointer p] w fun e w' => e = .returned (.bool false) ∧ w = w')) :
    Calls Try.prog 9 #[.pointer p] w fun e w' => e = .returned (.int .i64 6) ∧ w = w' := by
  go_enter Try.func9, Try.ntmps9
  go_wp2_with (go_at_call 16; (with_reducible refine C.out.mono ?_); rintro e w1 ⟨rfl, rfl⟩)
  go_ret
  exact ⟨rfl, rfl⟩

/-! Slices of integers. -/
def ints (L : List Int) : List Value := L.map (Value.int .i64)
/-- A slice that the call owns. -/
def OwnI (base : Nat) (w : World) (v : Value) (xs : List Int) : Prop := w.ownsRow base 3 1 v xs.length (ints xs)
theorem own_nil (w : World) (base : Nat) : OwnI base w (.slice none 0 0) [] := World.ownsRow_nil _ _ _ _
theorem OwnI.mono {base base' : Nat} {w : World} {v : Value} {xs : List Int} (h : OwnI base w v xs) (hb : base' ≤ base) : OwnI base' w v xs := by
  obtain ⟨h1, h2⟩ := h
  refine ⟨h1, ?_⟩
  rcases h2 with h2 | ⟨g, cap, cur, hv, hg, r⟩
  · exact .inl h2
  · exact .inr ⟨g, cap, cur, hv, Nat.le_trans hb hg, r⟩
theorem OwnI.upd {base : Nat} {w w' : World} {v : Value} {xs : List Int} {l : List Nat} (h : OwnI base w v xs) (k : Upd l w w') (hl : ∀ i, v.ownBlock = some i → i ∉ l) : OwnI base w' v xs := by
  obtain ⟨h1, h2⟩ := h
  refine ⟨h1, ?_⟩
  rcases h2 with h2 | ⟨g, cap, cur, rfl, hg, hgg, r⟩
  · exact .inl h2
  · exact .inr ⟨g, cap, cur, rfl, hg, (k.block g (lt_of_heap hgg) (hl g rfl)).trans hgg, r⟩
theorem OwnI.lt {base : Nat} {w : World} {v : Value} {xs : List Int} (h : OwnI base w v xs) : ∀ k, v.ownBlock = some k → base ≤ k ∧ k < w.heap.size := World.ownsRow.lt h
/-- A slice of integers, read. -/
structure IntsAt (w : World) (v : Value) (xs : List Int) : Prop where
  form : ∃ a cap, v = .slice a xs.length cap ∧ (0 < xs.length → ∃ b off, a = some ⟨b, off, none⟩ ∧ ∀ i, (h : i < xs.length) → w.cell? ⟨b, off + i, none⟩ = some (.int .i64 xs[i]))
theorem OwnI.at {base : Nat} {w : World} {v : Value} {xs : List Int} (h : OwnI base w v xs) : IntsAt w v xs := by
  obtain ⟨h1, h2⟩ := h
  rcases h2 with ⟨rfl, h0⟩ | ⟨g, cap, cur, rfl, hb, hrow, hn, _, hsz, htake⟩
  · exact ⟨none, 0, by rw [h0], fun h => by omega⟩
  · rw [Nat.mul_one] at hsz htake
    refine ⟨_, cap, rfl, fun _ => ⟨g, 0, rfl, fun i hi => ?_⟩⟩
    rw [cell_of_row _ _ _ _ _ _ hrow, Nat.zero_add]
    have h1 : (cur.toList.take xs.length)[i]? = some (.int .i64 xs[i]) := by rw [htake]; simp [ints, hi]
    rw [List.getElem?_take_of_lt hi] at h1
    simpa using h1
theorem IntsAt.below {w w' : World} {v : Value} {xs : List Int} (h : IntsAt w v xs) (hb : Below w.heap.size w w') : IntsAt w' v xs := by
  obtain ⟨a, cap, rfl, hc⟩ := h.form
  refine ⟨⟨a, cap, rfl, fun h0 => ?_⟩⟩
  obtain ⟨b, off, ha, hcell⟩ := hc h0
  refine ⟨b, off, ha, fun i hi => ?_⟩
  rw [hb.cell (World.block_lt_of_cell? w _ (hcell i hi))]
  exact hcell i hi

theorem info3 : (Try.prog.info? 3).map (fun i => (i.zero, i.size, i.bytes)) = some (some (.int .i64 0), 1, 8) := by kernel_rfl
theorem grown_none {w w' : World} (h : w.grownBy w' none) (row : Option Nat) : w.grownBy w' row := ⟨h.os, h.tape, h.output, h.size, fun k hk _ => h.block k hk (by simp)⟩
/-- 'append(v, vs...)' of integers, v the call's own: v's own row, or a new one. -/
theorem run_append_ints (base ty : Nat) (w : World) (v : Value) (xs : List Int) (hown : OwnI base w v xs) (vs : Value) (bs : List Int) (hs : IntsAt w vs bs)
    (hn : xs.length + bs.length ≤ 1000000) (hbase : base ≤ w.heap.size) :
    ∃ v' w', (Builtin.append_ #[22, 22] ty #[v, vs]).run Try.prog w = .ok v' w' ∧ OwnI base w' v' (xs ++ bs) ∧ w.grownBy w' v.ownBlock ∧ (v'.ownBlock = v.ownBlock ∨ ∃ k, v'.ownBlock = some k ∧ w.heap.size ≤ k) := by
  obtain ⟨i0, hi, hz0, hz1, hz2⟩ := info_parts info3
  obtain ⟨a, cap, rfl, hc⟩ := hs.form
  cases a with
  | none =>
    have h0 : bs = [] := by
      cases bs with
      | nil => rfl
      | cons c bs => obtain ⟨b, off, h, _⟩ := hc (by simp); simp at h
    subst h0
    have hr : (Builtin.append_ #[22, 22] ty #[v, .slice none 0 cap]).run Try.prog w = .ok v w := by
      rcases hown.2 with ⟨rfl, hz⟩ | ⟨g, cap', cur, rfl, _, _, hnc, _⟩
      · simp [Builtin.append_, run_underlying Try.underlying22, sizeOf, typeInfo, hi, Builtin.lenOf, Builtin.firstCells]
      · simp [Builtin.append_, run_underlying Try.underlying22, sizeOf, typeInfo, hi, Builtin.lenOf, Builtin.firstCells, hnc, storeCells]
    exact ⟨v, w, hr, by simpa using hown, ⟨rfl, rfl, rfl, Nat.le_refl _, fun _ _ _ => rfl⟩, Or.inl rfl⟩
  | some ad =>
    have hnews : ∀ j u, (ints bs)[j]? = some u → w.cell? (ad.add j) = some u := by
      intro j u hj
      have hlt : j < bs.length := by
        have := (List.getElem?_eq_some_iff.1 hj).1; simpa [ints] using this
      obtain ⟨b, off, hab, hcell⟩ := hc (by omega)
      simp only [Option.some.injEq] at hab
      subst hab
      have hadd : (⟨b, off, none⟩ : Addr).add j = ⟨b, off + j, none⟩ := by unfold Addr.add; split <;> simp_all
      rw [hadd, hcell j hlt]
      simpa [ints, hlt] using hj
    have hone : ∀ u ∈ ints bs, u.oneCell' = true := fun u hu => by obtain ⟨c, _, rfl⟩ := List.mem_map.1 hu; rfl
    have hlen : (xs ++ bs).length = xs.length + bs.length := List.length_append
    have hints : ints (xs ++ bs) = ints xs ++ ints bs := List.map_append
    rcases hown.2 with ⟨rfl, h0⟩ | ⟨g, cap', cur, rfl, hb, hrow, hnc, _⟩
    · have hx : xs = [] := List.eq_nil_of_length_eq_zero h0
      subst hx
      obtain ⟨v', w', h1, h2, h3, h4⟩ := run_append_own (P := Try.prog) w w.heap.size 22 ty 3 i0 _ 1 8 Try.underlying22 hi hz0 hz1 hz2 rfl (by decide) (.slice none 0 0) 0 [] (World.ownsRow_nil _ _ _ _) ad bs.length cap (ints bs)
        (by simp [ints]) hnews hone (by unfold maxLen; simp at hn; omega) (by simp at hn; omega) (Nat.le_refl _)
      have h2' : OwnI w.heap.size w' v' bs := by
        have := h2
        rw [Nat.zero_add, List.nil_append] at this
        exact this
      refine ⟨v', w', h1, h2'.mono hbase, h3, ?_⟩
      cases hv : v'.ownBlock with
      | none => exact Or.inl rfl
      | some k => exact Or.inr ⟨k, rfl, (h2'.lt k hv).1⟩
    · by_cases hroom : xs.length + bs.length ≤ cap'
      · obtain ⟨w', h1, h2, h3⟩ := run_append_fits (P := Try.prog) w base 22 ty 3 i0 1 Try.underlying22 hi hz1 g xs.length cap' (ints xs) hown ad bs.length cap (ints bs) (by simp [ints]) hnews hone hroom
        refine ⟨_, w', h1, ?_, h3, Or.inl rfl⟩
        unfold OwnI
        rw [hlen, hints]; exact h2
      · have holds := World.ownsRow.cells hown (g := g) rfl
        obtain ⟨v', w', h1, h2, h3⟩ := run_append_arg_grows (P := Try.prog) w 22 ty 3 i0 _ 1 8 Try.underlying22 hi hz0 hz1 hz2 rfl (by decide) ⟨g, 0, none⟩ xs.length cap' (ints xs) (by simp [ints]) holds ad bs.length cap (ints bs) (by simp [ints]) hnews
          (by omega) (by unfold maxLen; omega) (by omega)
        have h2' : OwnI w.heap.size w' v' (xs ++ bs) := by unfold OwnI; rw [hlen, hints]; exact h2
        refine ⟨v', w', h1, h2'.mono hbase, grown_none h3 _, ?_⟩
        cases hv : v'.ownBlock with
        | none =>
          exfalso
          rcases h2'.2 with ⟨_, h0⟩ | ⟨g', cap2, cur2, rfl, _⟩
          · omega
          · simp [Value.ownBlock] at hv
        | some k => exact Or.inr ⟨k, rfl, (h2'.lt k hv).1⟩

/-- As the walk meets it. -/
theorem wp_append_ints {o : Oper} {a : Act} {K : Act → World → Prop} {Q : Exit → Act → World → Prop} (s x : Operand)
    (ho : o.op = .call { callee := .builtin .append, args := #[s, x], argTypes := #[22, 22] }) (base : Nat) (w : World) (v vs : Value) (hv : a.eval s = v) (hvs : a.eval x = vs) (xs bs : List Int)
    (hown : OwnI base w v xs) (hs : IntsAt w vs bs) (hn : xs.length + bs.length ≤ 1000000) (hbase : base ≤ w.heap.size)
    (h : ∀ v' w', OwnI base w' v' (xs ++ bs) → w.grownBy w' v.ownBlock → (v'.ownBlock = v.ownBlock ∨ ∃ k, v'.ownBlock = some k ∧ w.heap.size ≤ k) → K (a.put o.dst v') w') : o.wp Try.prog a w K Q := by
  obtain ⟨v', w', hr, h2, h3, h4⟩ := run_append_ints base o.type w v xs hown vs bs hs hn hbase
  unfold Oper.wp execOp
  simp only [ho, resolve, invoke, builtin, Sem.run_bind, Sem.run_pure, Result.andThen_ok, List.map_toArray, List.map_cons, List.map_nil, hv, hvs, hr]
  exact h v' w' h2 h3 h4
theorem wpList_append_ints {ops : Array Oper} {rest : List Oper} {o : Oper} {a : Act} {Q : Exit → Act → World → Prop} (hgd : o.guard = none) (s x : Operand)
    (ho : o.op = .call { callee := .builtin .append, args := #[s, x], argTypes := #[22, 22] }) (base : Nat) (w : World) (v vs : Value) (hv : a.eval s = v) (hvs : a.eval x = vs) (xs bs : List Int)
    (hown : OwnI base w v xs) (hs : IntsAt w vs bs) (hn : xs.length + bs.length ≤ 1000000) (hbase : base ≤ w.heap.size)
    (h : ∀ v' w', OwnI base w' v' (xs ++ bs) → w.grownBy w' v.ownBlock → (v'.ownBlock = v.ownBlock ∨ ∃ k, v'.ownBlock = some k ∧ w.heap.size ≤ k) → wpList Try.prog ops Q rest (a.put o.dst v') w') : wpList Try.prog ops Q (o :: rest) a w :=
  wpList_plain hgd fun _ hK => wp_append_ints s x ho base w v vs hv hvs xs bs hown hs hn hbase fun v' w' h2 h3 h4 => hK _ _ (h v' w' h2 h3 h4)
theorem upd_grown {w w' : World} {v : Value} (h : w.grownBy w' v.ownBlock) : Upd v.ownBlock.toList w w' :=
  ⟨h.os, h.tape, h.output, h.size, fun k hk hl => h.block k hk (fun e => hl (by rw [← e]; simp))⟩

end Go.Proofs.Ytlomjckmclefeaa
