/- The law CrcJoins without a bound: an append whose text is a little longer than 2^47 bytes. -/
import Derived.Test.YtbbanicjlfabgaaJ
namespace Go.Proofs.Ytbbanicjlfabgaa
set_option linter.unusedVariables false
set_option linter.unusedSimpArgs false
open Go.RowKit

theorem nextslicecap_quarter {need old : Nat} (h : old < need) : Builtin.nextslicecap need old ≤ need + need / 4 + 1000 := by
  unfold Builtin.nextslicecap
  split
  · omega
  · split
    · omega
    · rw [growBy_four]
      repeat' split
      all_goals omega
/-- 'append(v, vs...)' of bytes, v the call's own: some way beyond 2^47 bytes. -/
theorem run_append_far (base ty : Nat) (w : World) (v : Value) (xs : List (BitVec 8)) (hown : w.ownsRow base 5 1 v xs.length (xs.map u8)) (vs : Value) (bs : List (BitVec 8)) (hs : SliceAt w vs bs)
    (hx : xs.length ≤ 140737488355328) (hm : bs.length ≤ 140737488355328) (hn : xs.length + bs.length ≤ 140737488420000) (hbase : base ≤ w.heap.size) :
    ∃ v' w', (Builtin.append_ #[28, 28] ty #[v, vs]).run Try.prog w = .ok v' w' ∧ w'.ownsRow base 5 1 v' (xs ++ bs).length ((xs ++ bs).map u8) ∧ w.grownBy w' v.ownBlock := by
  by_cases hsum : xs.length + bs.length ≤ 140737488355328
  · exact run_append_bytes base ty w v xs hown vs bs hs hsum hbase
  obtain ⟨i0, hi, hz0, hz1, hz2⟩ := bytes5'
  obtain ⟨a, cap, rfl, hc⟩ := hs.form
  have hlen : (xs ++ bs).length = xs.length + bs.length := List.length_append
  have hmap : (xs ++ bs).map u8 = xs.map u8 ++ bs.map u8 := List.map_append
  by_cases hb0 : bs = []
  · subst hb0; simp at hsum; omega
  have hpos : 0 < bs.length := List.length_pos_iff.2 hb0
  obtain ⟨bb, off, rfl, hcell⟩ := hc hpos
  have hnews : ∀ j u, (bs.map u8)[j]? = some u → w.cell? ((⟨bb, off, none⟩ : Addr).add j) = some u := by
    intro j u hj
    have hlt : j < bs.length := by
      have := (List.getElem?_eq_some_iff.1 hj).1; simpa using this
    have hadd : (⟨bb, off, none⟩ : Addr).add j = ⟨bb, off + j, none⟩ := by unfold Addr.add; split <;> simp_all
    rw [hadd, hcell j hlt]
    simpa [hlt] using hj
  have hown0 := hown
  rcases hown.2 with ⟨rfl, h0⟩ | ⟨g, cap', cur, rfl, hb, hrow, hnc, _⟩
  · omega
  · by_cases hroom : xs.length + bs.length ≤ cap'
    · obtain ⟨w', h1, h2, h3⟩ := run_append_fits (P := Try.prog) w base 28 ty 5 i0 1 Try.underlying28 hi hz1 g xs.length cap' (xs.map u8) hown ⟨bb, off, none⟩ bs.length cap (bs.map u8) (by simp) hnews
        (fun u hu => by obtain ⟨c, _, rfl⟩ := List.mem_map.1 hu; rfl) hroom
      exact ⟨_, w', h1, by rw [hlen, hmap]; exact h2, h3⟩
    · have holds := World.ownsRow.cells hown (g := g) rfl
      have hg : cap' < xs.length + bs.length := by omega
      have hr := run_append_grow (P := Try.prog) w 28 ty 5 i0 _ Try.underlying28 hi hz0 ⟨g, 0, none⟩ xs.length cap' (xs.map u8) (by rw [hz1]; simp) holds ⟨bb, off, none⟩ bs.length cap (bs.map u8) (by rw [hz1]; simp) hnews
        hg (by omega) (by have := nextslicecap_quarter hg; rw [hz2]; omega)
      have hge := grownCap_ge w (xs.length + bs.length) cap' 5
      have hcm : grownCap w (xs.length + bs.length) cap' 5 ≤ maxLen := grownCap_le_maxLen w (xs.length + bs.length) cap' 5 (by unfold maxLen; omega)
      refine ⟨_, _, hr, ?_, ⟨rfl, rfl, rfl, by simp, fun k hk _ => heap_alloc_old w.drew _ hk⟩⟩
      rw [hlen, hmap]
      refine ⟨by simp, .inr ⟨w.heap.size, _, _, rfl, hbase, heap_alloc_new w.drew _, hge, hcm, ?_, ?_⟩⟩
      · simp only [Array.size_append, List.size_toArray, size_zeroCells, List.length_map]
        show _ + _ * 1 = _
        omega
      · rw [Nat.mul_one]
        simp only [Array.toList_append]
        rw [List.take_left' (by simp)]
theorem wpList_append_far {ops : Array Oper} {rest : List Oper} {o : Oper} {a : Act} {Q : Exit → Act → World → Prop} (hgd : Region.wanted o (yielded ops a.tmps) = true) (s x : Operand)
    (ho : o.op = .call { callee := .builtin .append, args := #[s, x], argTypes := #[28, 28] }) (base : Nat) (w : World) (v vs : Value) (hv : a.eval s = v) (hvs : a.eval x = vs) (xs bs : List (BitVec 8))
    (hown : w.ownsRow base 5 1 v xs.length (xs.map u8)) (hs : SliceAt w vs bs) (hn : xs.length ≤ 140737488355328 ∧ bs.length ≤ 140737488355328 ∧ xs.length + bs.length ≤ 140737488420000) (hbase : base ≤ w.heap.size)
    (h : ∀ v' w', w'.ownsRow base 5 1 v' (xs ++ bs).length ((xs ++ bs).map u8) → w.grownBy w' v.ownBlock → wpList Try.prog ops Q rest (a.put o.dst v') w') : wpList Try.prog ops Q (o :: rest) a w :=
  wpList_step fun _ hK => by
    rw [if_pos hgd]
    obtain ⟨v', w', hr, h2, h3⟩ := run_append_far base o.type w v xs hown vs bs hs hn.1 hn.2.1 hn.2.2 hbase
    unfold Oper.wp execOp
    simp only [ho, resolve, invoke, builtin, Sem.run_bind, Sem.run_pure, Result.andThen_ok, List.map_toArray, List.map_cons, List.map_nil, hv, hvs, hr]
    exact hK _ _ (h v' w' h2 h3)

set_option maxRecDepth 100000 in
set_option maxHeartbeats 800000 in
theorem run_far (r0 : BitVec 32) (v : Value) (bs : List (BitVec 8)) (w : World) (hv : SliceAt w v bs) (hm : bs.length ≤ 140737488420000) :
    Calls Try.prog 19 #[u32 r0, v] w fun e w' => e = .returned (u32 (runR r0 bs)) ∧ w = w' := by
  obtain ⟨a, cap, rfl, hcells⟩ := hv.form
  clear hv
  go_enter Try.func19, Try.ntmps19
  go_wp2
  go_loop [0, 5] (fun v i => ∃ k : Nat, k ≤ bs.length ∧ i = .int .i64 k ∧ v = u32 (runR r0 (bs.take k))) (fun _ i => (bs.length - intOf i).toNat)
  case atStart => exact ⟨0, by omega, rfl, rfl⟩
  case round =>
    obtain ⟨k, hk, rfl, rfl⟩ := hrel
    by_cases hlt : k < bs.length
    · obtain ⟨b, off, rfl, hc⟩ := hcells (by omega)
      have hck := hc k hlt
      have HT := Lib.hid (runR_take r0 bs k hlt)
      generalize runR r0 (bs.take k) = r at *
      generalize bs[k] = c at *
      have hd : decide ((k : Int) < (bs.length : Int)) = true := by simp; omega
      clear hcells hc
      go_wp2
      go_loop [0, 6] (fun v i => ∃ j : Nat, j ≤ 8 ∧ i = .int .i64 j ∧ v = u32 (runN r c j)) (fun _ i => (8 - intOf i).toNat)
      case atStart => exact ⟨0, by omega, rfl, rfl⟩
      case round =>
        obtain ⟨j, hj, rfl, rfl⟩ := hrel
        by_cases hj8 : j < 8
        · have hbit := bit8t c j
          go_wp2_with (go_at_call 18; refine (bit_any _ _ _).mono ?_; rintro e w' ⟨rfl, rfl⟩)
          go_round
          case rel => exact ⟨j + 1, by omega, by go_num, rfl⟩
          case measure => simp [intOf]; omega
        · obtain rfl : j = 8 := by omega
          go_wp2_with fail
          go_round
          case rel => exact ⟨k + 1, by omega, by go_num, by rw [HT.out]; rfl⟩
          case measure => simp [intOf]; omega
    · obtain rfl : k = bs.length := by omega
      rw [List.take_length]
      go_wp2
      go_ret
      exact ⟨rfl, rfl⟩

set_option maxHeartbeats 400000 in
theorem refsum_far (v : Value) (bs : List (BitVec 8)) (w : World) (hv : SliceAt w v bs) (hm : bs.length ≤ 140737488420000) :
    Calls Try.prog 14 #[v] w fun e w' => e = .returned (u32 (refSum bs)) ∧ w = w' := by
  have hx : ∃ q, q = runR (~~~ 0#32) bs ∧ u32 (refSum bs) = .int .u32 (bits .xor .u32 (q.toNat : Int) 4294967295) :=
    ⟨_, rfl, by rw [not_u32']; rfl⟩
  obtain ⟨q, hq, hr⟩ := hx
  have HR := Lib.hid hr
  have hc := run_far (~~~ 0#32) v bs w hv hm
  rw [← hq] at hc
  have HC := Lib.hid hc
  clear hq hr hc
  go_enter Try.func14, Try.ntmps14
  go_wp2_with (go_at_call 19; refine HC.out.mono ?_; rintro e w' ⟨rfl, rfl⟩)
  go_ret
  exact ⟨by rw [HR.out]; rfl, rfl⟩

set_option maxRecDepth 100000 in
set_option maxHeartbeats 1000000 in
theorem joins_far (va vb : Value) (a b : List (BitVec 8)) (n : Int) (w : World) (hva : SliceAt w va a) (hvb : SliceAt w vb b) (hma : a.length ≤ 140737488351232) (hmb : b.length ≤ 140737488351232) (h0 : 0 ≤ n) (h1 : n ≤ 65535) (hl : b.length ≤ 65535) :
    Calls Try.prog 6 #[va, vb, .int .i64 n] w fun e w' => e = .returned (.bool true) ∧ Below w.heap.size w w' := by
  have HV := Lib.hid hva
  have HW := Lib.hid hvb
  obtain ⟨ab, capb, rfl, hcb⟩ := hvb.form
  have hmab : (a ++ b).length ≤ 140737488420000 := by rw [List.length_append]; omega
  have hma0 : a.length ≤ 140737488351232 := hma
  have hma : a.length ≤ 140737488420000 := by omega
  have hmb : b.length ≤ 140737488420000 := by omega
  have hl2 : (b.length : Int) ≤ 65535 := by omega
  clear hva hvb hcb
  go_enter Try.func6, Try.ntmps6
  go_wp2_with (go_at_call 10; refine (alive_any _).mono ?_; rintro e w1 ⟨rfl, hb1⟩; have HB := Lib.hid hb1; clear hb1)
  refine (refsum_far va a _ (HV.out.below HB.out) hma).mono ?_
  rintro e w2 ⟨rfl, rfl⟩
  go_wp2_with fail
  refine (refsum_far _ b _ (HW.out.below HB.out) hmb).mono ?_
  rintro e w2 ⟨rfl, rfl⟩
  go_wp2_with fail
  refine (joinL_any a b _ rfl (by omega) _).mono ?_
  rintro e wA ⟨rfl, hb2⟩
  have HA := Lib.hid (below_next HB.out hb2)
  clear hb2 HB
  go_wp2_with (first
    | (at_builtin; refine wpList_append_far rfl (.tmp 36) (.tmp 37) rfl wA.heap.size _ (.slice (some ⟨wA.heap.size, 0, none⟩) 0 0) va rfl rfl [] a (own_empty wA _ _ rfl (Nat.le_refl _)) ((HV.out.below HA.out).below ((Below.refl _ _).alloc (Nat.le_refl _) _)) ⟨by simp, by omega, by simp; omega⟩ (by simp) ?_
       intro va2 wB hown hgr
       have HO := Lib.hid hown
       have HB : Hid (Below wA.heap.size wA wB) := (grown_below2 hgr (by simp) (fun k hk => by simp [Value.ownBlock] at hk; omega) : Below wA.heap.size (wA.alloc (.cells #[] 5)) wB) |> fun h => ((Below.refl wA.heap.size wA).alloc (Nat.le_refl _) _).trans h
       clear hown hgr)
    | (at_builtin; refine wpList_append_far rfl (.tmp 38) (.tmp 39) rfl wA.heap.size _ va2 (.slice ab b.length capb) rfl rfl a b (by simpa using HO.out) ((HW.out.below HA.out).below HB.out) ⟨by omega, by omega, by omega⟩ HB.out.size ?_
       intro vab wC hown hgr
       have HO2 := Lib.hid hown
       have HC : Hid (Below wA.heap.size wA wC) := HB.out.trans (grown_below2 hgr HB.out.size (own_block HO.out))
       clear hown hgr)
    | (go_at_call 14; refine (refsum_far vab (a ++ b) _ (OwnB.of_row HO2.out).sliceAt hmab).mono ?_; rintro e w2 ⟨rfl, rfl⟩))
  go_ret
  exact ⟨by simp, HA.out.trans (HC.out.mono HA.out.size)⟩

theorem joins_every (va vb : Value) (a b : List (BitVec 8)) (n : Int) (w : World) (hva : SliceAt w va a) (hvb : SliceAt w vb b) (hma : a.length ≤ 140737488351232) (hmb : b.length ≤ 140737488351232) :
    Calls Try.prog 6 #[va, vb, .int .i64 n] w fun e w' => e = .returned (.bool true) ∧ Below w.heap.size w w' := by
  by_cases hn : n < 0 ∨ 65535 < n
  · exact joins_out va vb a b n w hva hvb (by omega) (by omega) hn
  · by_cases hl : b.length ≤ 65535
    · exact joins_far va vb a b n w hva hvb hma hmb (by omega) (by omega) hl
    · exact joins_long va vb a b n w hvb (by omega) (by omega) (by omega) (by omega)

end Go.Proofs.Ytbbanicjlfabgaa

