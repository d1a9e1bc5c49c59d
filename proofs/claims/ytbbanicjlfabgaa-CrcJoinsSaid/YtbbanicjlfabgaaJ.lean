import Derived.Test.YtbbanicjlfabgaaS
namespace Go.Proofs.Ytbbanicjlfabgaa
set_option linter.unusedVariables false
set_option linter.unusedSimpArgs false
open Go.RowKit

theorem wpList_append_bytes_g {ops : Array Oper} {rest : List Oper} {o : Oper} {a : Act} {Q : Exit → Act → World → Prop} (hgd : Region.wanted o (yielded ops a.tmps) = true) (s x : Operand)
    (ho : o.op = .call { callee := .builtin .append, args := #[s, x], argTypes := #[28, 28] }) (base : Nat) (w : World) (v vs : Value) (hv : a.eval s = v) (hvs : a.eval x = vs) (xs bs : List (BitVec 8))
    (hown : w.ownsRow base 5 1 v xs.length (xs.map u8)) (hs : SliceAt w vs bs) (hn : xs.length + bs.length ≤ 140737488355328) (hbase : base ≤ w.heap.size)
    (h : ∀ v' w', w'.ownsRow base 5 1 v' (xs ++ bs).length ((xs ++ bs).map u8) → w.grownBy w' v.ownBlock → wpList Try.prog ops Q rest (a.put o.dst v') w') : wpList Try.prog ops Q (o :: rest) a w :=
  wpList_step fun _ hK => by
    rw [if_pos hgd]
    exact wp_append_bytes s x ho base w v vs hv hvs xs bs hown hs hn hbase fun v' w' h2 h3 => hK _ _ (h v' w' h2 h3)

set_option maxRecDepth 100000 in
set_option maxHeartbeats 1000000 in
theorem joins_out (va vb : Value) (a b : List (BitVec 8)) (n : Int) (w : World) (hva : SliceAt w va a) (hvb : SliceAt w vb b) (hma : a.length ≤ 140737488351232) (hmb : b.length ≤ 140737488351232) (hn : n < 0 ∨ 65535 < n) :
    Calls Try.prog 6 #[va, vb, .int .i64 n] w fun e w' => e = .returned (.bool true) ∧ Below w.heap.size w w' := by
  have HV := Lib.hid hva
  have HW := Lib.hid hvb
  have HN := Lib.hid hn
  have key : n < 0 ∨ (0 ≤ n ∧ 65535 < n) := by omega
  clear hva hvb hn
  rcases key with h1 | ⟨h0, h1⟩
  all_goals
    go_enter Try.func6, Try.ntmps6
    go_wp2_with (go_at_call 10; refine (alive_any _).mono ?_; rintro e w1 ⟨rfl, hb1⟩; have HB := Lib.hid hb1; clear hb1)
    refine (refsum_any va a _ (HV.out.below HB.out) hma).mono ?_
    rintro e w2 ⟨rfl, rfl⟩
    go_wp2_with fail
    refine (refsum_any vb b _ (HW.out.below HB.out) hmb).mono ?_
    rintro e w2 ⟨rfl, rfl⟩
    go_wp2_with fail
    refine (join_out _ _ n HN.out _).mono ?_
    rintro e w2 ⟨rfl, hb2⟩
    have HC := Lib.hid (below_next HB.out hb2)
    clear hb2
    go_wp2_with fail
    go_ret
    exact ⟨by simp, HC.out⟩

set_option maxRecDepth 100000 in
set_option maxHeartbeats 1000000 in
theorem joins_long (va vb : Value) (a b : List (BitVec 8)) (n : Int) (w : World) (hvb : SliceAt w vb b) (hmb : b.length ≤ 140737488351232) (h0 : 0 ≤ n) (h1 : n ≤ 65535) (hl : 65535 < b.length) :
    Calls Try.prog 6 #[va, vb, .int .i64 n] w fun e w' => e = .returned (.bool true) ∧ Below w.heap.size w w' := by
  obtain ⟨ab, capb, rfl, hcb⟩ := hvb.form
  have hl2 : (65535 : Int) < (b.length : Int) := by omega
  clear hvb hcb
  go_enter Try.func6, Try.ntmps6
  go_wp2_with (go_at_call 10; refine (alive_any _).mono ?_; rintro e w1 ⟨rfl, hb1⟩; have HB := Lib.hid hb1; clear hb1)
  go_ret
  exact ⟨rfl, HB.out⟩

set_option maxRecDepth 100000 in
set_option maxHeartbeats 1000000 in
theorem joins_in (va vb : Value) (a b : List (BitVec 8)) (n : Int) (w : World) (hva : SliceAt w va a) (hvb : SliceAt w vb b) (hma : a.length ≤ 1048576) (hmb : b.length ≤ 1048576) (h0 : 0 ≤ n) (h1 : n ≤ 65535) (hl : b.length ≤ 65535) :
    Calls Try.prog 6 #[va, vb, .int .i64 n] w fun e w' => e = .returned (.bool true) ∧ Below w.heap.size w w' := by
  have HV := Lib.hid hva
  have HW := Lib.hid hvb
  obtain ⟨ab, capb, rfl, hcb⟩ := hvb.form
  have hmab : (a ++ b).length ≤ 140737488351232 := by rw [List.length_append]; omega
  have hma : a.length ≤ 140737488351232 := by omega
  have hmb : b.length ≤ 140737488351232 := by omega
  have hl2 : (b.length : Int) ≤ 65535 := by omega
  clear hva hvb hcb
  go_enter Try.func6, Try.ntmps6
  go_wp2_with (go_at_call 10; refine (alive_any _).mono ?_; rintro e w1 ⟨rfl, hb1⟩; have HB := Lib.hid hb1; clear hb1)
  refine (refsum_any va a _ (HV.out.below HB.out) hma).mono ?_
  rintro e w2 ⟨rfl, rfl⟩
  go_wp2_with fail
  refine (refsum_any _ b _ (HW.out.below HB.out) hmb).mono ?_
  rintro e w2 ⟨rfl, rfl⟩
  go_wp2_with fail
  refine (joinL_any a b _ rfl (by omega) _).mono ?_
  rintro e wA ⟨rfl, hb2⟩
  have HA := Lib.hid (below_next HB.out hb2)
  clear hb2 HB
  go_wp2_with (first
    | (at_builtin; refine wpList_append_bytes_g rfl (.tmp 36) (.tmp 37) rfl wA.heap.size _ (.slice (some ⟨wA.heap.size, 0, none⟩) 0 0) va rfl rfl [] a (own_empty wA _ _ rfl (Nat.le_refl _)) ((HV.out.below HA.out).below ((Below.refl _ _).alloc (Nat.le_refl _) _)) (by simp; omega) (by simp) ?_
       intro va2 wB hown hgr
       have HO := Lib.hid hown
       have HB : Hid (Below wA.heap.size wA wB) := (grown_below2 hgr (by simp) (fun k hk => by simp [Value.ownBlock] at hk; omega) : Below wA.heap.size (wA.alloc (.cells #[] 5)) wB) |> fun h => ((Below.refl wA.heap.size wA).alloc (Nat.le_refl _) _).trans h
       clear hown hgr)
    | (at_builtin; refine wpList_append_bytes_g rfl (.tmp 38) (.tmp 39) rfl wA.heap.size _ va2 (.slice ab b.length capb) rfl rfl a b (by simpa using HO.out) ((HW.out.below HA.out).below HB.out) (by omega) HB.out.size ?_
       intro vab wC hown hgr
       have HO2 := Lib.hid hown
       have HC : Hid (Below wA.heap.size wA wC) := HB.out.trans (grown_below2 hgr HB.out.size (own_block HO.out))
       clear hown hgr)
    | (go_at_call 14; refine (refsum_any vab (a ++ b) _ (OwnB.of_row HO2.out).sliceAt hmab).mono ?_; rintro e w2 ⟨rfl, rfl⟩))
  go_ret
  exact ⟨by simp, HA.out.trans (HC.out.mono HA.out.size)⟩

theorem joins_any (va vb : Value) (a b : List (BitVec 8)) (n : Int) (w : World) (hva : SliceAt w va a) (hvb : SliceAt w vb b) (hma : a.length ≤ 1048576) (hmb : b.length ≤ 1048576) :
    Calls Try.prog 6 #[va, vb, .int .i64 n] w fun e w' => e = .returned (.bool true) ∧ Below w.heap.size w w' := by
  by_cases hn : n < 0 ∨ 65535 < n
  · exact joins_out va vb a b n w hva hvb (by omega) (by omega) hn
  · by_cases hl : b.length ≤ 65535
    · exact joins_in va vb a b n w hva hvb hma hmb (by omega) (by omega) hl
    · exact joins_long va vb a b n w hvb (by omega) (by omega) (by omega) (by omega)

end Go.Proofs.Ytbbanicjlfabgaa
