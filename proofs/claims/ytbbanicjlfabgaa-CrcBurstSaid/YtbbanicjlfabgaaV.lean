import Derived.Test.YtbbanicjlfabgaaR
import Derived.Test.YtbbanicjlfabgaaU
import Derived.Test.YtbbanicjlfabgaaP
namespace Go.Proofs.Ytbbanicjlfabgaa
set_option linter.unusedVariables false
set_option linter.unusedSimpArgs false
open Go.RowKit

/-- The world in the loop: the copy reads cs. -/
structure BI (cs : List (BitVec 8)) (B : Nat) (v : Value) (w : World) (g : Nat) (wr : World) : Prop where
  below : Below w.heap.size w wr
  row : wr.heap[g]? = some (.cells (tabOf word) 24 (0, 0))
  lt : g < B
  le : w.heap.size ≤ B
  own : OwnB B wr v cs
section
variable {b cs : List (BitVec 8)} {B g : Nat} {v vb : Value} {w wr w1 : World} {s1 s2 : ByteArray}
theorem BI.next (h : BI cs B v w g wr) (hb : Below wr.heap.size wr w1) : BI cs B v w g w1 :=
  ⟨h.below.trans (hb.mono h.below.size), by rw [hb.block _ (Array.getElem?_eq_some_iff.1 h.row).1]; exact h.row, h.lt, h.le, h.own.below hb⟩
theorem below_drew (w : World) : Below w.heap.size w w.drew := ⟨rfl, rfl, rfl, Nat.le_refl _, fun _ _ => rfl⟩
theorem BI.drew (h : BI cs B v w g wr) : BI cs B v w g wr.drew := h.next (below_drew _)
theorem BI.at_ {A : Option Addr} {n cap : Nat} (h : BI cs B (.slice A n cap) w g wr) (j : Nat) (hj : j < cs.length) :
    ∃ gc, A = some ⟨gc, 0, none⟩ ∧ wr.cell? ⟨gc, j, none⟩ = some (u8 (cs.getD j 0#8)) ∧ wr.frozen? ⟨gc, j, none⟩ = false ∧ ∀ x, BI (cs.set j x) B (.slice A n cap) w g (wr.setCell ⟨gc, j, none⟩ (u8 x)) := by
  obtain ⟨a, cap', he, hcap, hf⟩ := h.own.form
  simp only [Value.slice.injEq] at he
  obtain ⟨rfl, rfl, rfl⟩ := he
  obtain ⟨gc, cur, rfl, hB, hrow, hsz, htake⟩ := hf (by omega)
  refine ⟨gc, rfl, ?_, frozen_of_row _ _ _ _ _ hrow, fun x => ⟨h.below.setCell (by have := h.le; simp; omega) _, ?_, h.lt, h.le, own_store j x hj hrow hB hsz hcap htake⟩⟩
  · rw [cell_of_row _ _ _ _ _ _ hrow]
    have h1 : (cur.toList.take cs.length)[j]? = some (u8 cs[j]) := by rw [htake]; simp [hj]
    rw [List.getElem?_take_of_lt hj] at h1
    rw [List.getD_eq_getElem?_getD, List.getElem?_eq_getElem hj]
    simpa using h1
  · rw [heap_setCell_other _ _ _ _ (by have := h.lt; simp; omega)]; exact h.row
structure BK (b cs : List (BitVec 8)) (B : Nat) (v vb : Value) (w : World) (g : Nat) (wr : World) : Prop where
  bi : BI cs B v w g wr
  sb : SliceAt wr vb b
def BKept (b cs : List (BitVec 8)) (B : Nat) (v vb : Value) (w : World) (g : Nat) (wr : World) : Prop := BK b cs B v vb w g wr
abbrev BAll (b cs : List (BitVec 8)) (B : Nat) (v vb : Value) (w : World) (g : Nat) (s1 s2 : ByteArray) (wr : World) : Prop :=
  BKept b cs B v vb w g wr ∧ wr.rangeAt g 0 tabL ∧ (convert 28 9 vb).run Try.prog wr = .ok (.string s1) wr ∧ (convert 28 9 v).run Try.prog wr = .ok (.string s2) wr
theorem BKept.all (h : BK b cs B v vb w g wr) (h1 : strB b = s1) (h2 : strB cs = s2) : BAll b cs B v vb w g s1 s2 wr :=
  ⟨h, row_range h.bi.row, by rw [← h1]; exact conv28 h.sb, by rw [← h2]; exact conv28 h.bi.own.sliceAt⟩
theorem BKept.next (h1 : strB b = s1) (h2 : strB cs = s2) (h : BAll b cs B v vb w g s1 s2 wr) (hb : Below wr.heap.size wr w1) : BAll b cs B v vb w g s1 s2 w1 :=
  BKept.all ⟨BI.next (BK.bi h.1) hb, (BK.sb h.1).below hb⟩ h1 h2
theorem BKept.drew (h : BK b cs B v vb w g wr) (h1 : strB b = s1) (h2 : strB cs = s2) : BAll b cs B v vb w g s1 s2 wr.drew :=
  BKept.all ⟨h.bi.drew, h.sb.below (below_drew _)⟩ h1 h2
theorem BKept.sb (h : BAll b cs B v vb w g s1 s2 wr) : SliceAt wr vb b := BK.sb h.1
theorem BKept.sc (h : BAll b cs B v vb w g s1 s2 wr) : SliceAt wr v cs := (BK.bi h.1).own.sliceAt
theorem BKept.below (h : BAll b cs B v vb w g s1 s2 wr) : Below w.heap.size w wr := (BK.bi h.1).below
end
/-- The text behind k rounds; at_ may lie below 0. -/
def flipsI (b : List (BitVec 8)) (at_ : Int) (t : BitVec 32) (k : Nat) : List (BitVec 8) := if at_ < 0 then b else flips b at_.toNat t k
theorem flipsI_length (b : List (BitVec 8)) (at_ : Int) (t : BitVec 32) (k : Nat) : (flipsI b at_ t k).length = b.length := by
  unfold flipsI; split
  · rfl
  · exact flips_length _ _ _ _
theorem flipsI_zero (b : List (BitVec 8)) (at_ : Int) (t : BitVec 32) : flipsI b at_ t 0 = b := by unfold flipsI; split <;> rfl
theorem flipsI_skip (b : List (BitVec 8)) (at_ : Int) (t : BitVec 32) (k : Nat) (h : at_ < 0 ∨ 8 * (b.length : Int) - 1 - k < at_ ∨ t.getLsbD k = false) : flipsI b at_ t (k + 1) = flipsI b at_ t k := by
  unfold flipsI
  by_cases h0 : at_ < 0
  · rw [if_pos h0, if_pos h0]
  · rw [if_neg h0, if_neg h0, flips, if_neg]
    rintro ⟨h1, h2⟩
    rcases h with h | h | h
    · exact h0 h
    · omega
    · rw [h] at h2; cases h2
theorem flipsI_step (b : List (BitVec 8)) (n : Nat) (t : BitVec 32) (k : Nat) (h : n + k < 8 * b.length) (h2 : t.getLsbD k = true) :
    flipsI b (n : Int) t (k + 1) = (flipsI b (n : Int) t k).set ((n + k) / 8) ((flipsI b (n : Int) t k).getD ((n + k) / 8) 0#8 ^^^ BitVec.ofNat 8 (2 ^ ((n + k) % 8))) := by
  unfold flipsI
  rw [if_neg (by omega), if_neg (by omega), flips, if_pos ⟨h, h2⟩]; rfl
theorem flipsI_law (b : List (BitVec 8)) (at_ : Int) (t : BitVec 32) : (b = flipsI b at_ t 32) ↔ (refSum b = refSum (flipsI b at_ t 32)) := by
  unfold flipsI; split
  · simp
  · exact flips_law _ _ _

theorem shl8 (c : BitVec 8) (n : Nat) (h : n < 8) : bits .xor .u8 (c.toNat : Int) (IntKind.u8.wrap (2 ^ n)) = ((c ^^^ BitVec.ofNat 8 (2 ^ n)).toNat : Int) := by
  have e : IntKind.u8.wrap (2 ^ n : Int) = ((BitVec.ofNat 8 (2 ^ n)).toNat : Int) := by
    have e1 : (2 ^ n : Int) = ((2 ^ n : Nat) : Int) := by simp
    have e2 : (2 : Nat) ^ 8 = 256 := rfl
    rw [BitVec.toNat_ofNat, IntKind.wrap_u8, e1, e2]
    omega
  rw [e, bits_xor8]

set_option maxRecDepth 100000 in
set_option maxHeartbeats 4000000 in
theorem burst_any (vb : Value) (b : List (BitVec 8)) (at_ : Int) (t : BitVec 32) (w : World) (hvb : SliceAt w vb b) (hm : b.length ≤ 140737488351232) (hat : -9223372036854775808 ≤ at_) (hat2 : at_ < 9223372036854775808) :
    Calls Try.prog 9 #[vb, .int .i64 at_, u32 t] w fun e w' => e = .returned (.bool true) ∧ Below w.heap.size w w' := by
  have HV := Lib.hid hvb
  obtain ⟨aa, capa, rfl, hca⟩ := hvb.form
  have hz := zero24
  clear hvb hca
  go_enter Try.func9, Try.ntmps9
  go_wp2_with (first
    | (go_at_call 11; refine (table_word _).mono ?_; rintro e w1 ⟨rfl, hb1⟩
       have HA := Lib.hid (AI.start hb1)
       clear hb1)
    | (refine wpList_store_row rfl 24 _ _ rfl w1.heap.size (tabOf word) rfl rfl 24 (zs 256) (Go.heap_alloc_new _ _) (size24.trans (by rw [tabOf_size])) (by simp [zs, tabOf_size]) (tabOf_one _) ?_
       generalize (w1.alloc (Obj.cells (zs 256) 24)).setRow w1.heap.size (tabOf word) = wA at *
       generalize w1.heap.size = g at *
       clear w1)
    | (at_builtin; go_loud (refine wpList_append_bytes rfl (.tmp 11) (.tmp 12) rfl wA.heap.size _ (.slice (some ⟨wA.heap.size, 0, none⟩) 0 0) (.slice aa b.length capa) rfl rfl [] b (own_empty wA _ _ rfl (Nat.le_refl _)) ((HV.out.below HA.out.below).below ((Below.refl _ _).alloc (Nat.le_refl _) _)) (by simp; omega) (by simp) ?_)
       intro vc wC hown hgr
       have HB : Hid (BI b wA.heap.size vc w g wC) := by
         refine ⟨((HA.out.below.alloc HA.out.below.size _).grown hgr (by have := HA.out.below.size; simp; omega) (fun k hk => by simp [Value.ownBlock] at hk; have := HA.out.below.size; omega)), ?_, HA.out.lt, HA.out.below.size, OwnB.of_row (by simpa using hown)⟩
         rw [hgr.block _ (by have := HA.out.lt; simp; omega) (by have := HA.out.lt; simp [Value.ownBlock]; omega), heap_alloc_old _ _ HA.out.lt]
         exact HA.out.row
       clear hown hgr HA))
  clear hz
  obtain ⟨B, hB⟩ : ∃ B, B = wA.heap.size := ⟨_, rfl⟩
  rw [← hB] at HB
  clear hB
  obtain ⟨A, capc, hA, hcapc, _⟩ := HB.out.own.form
  subst hA
  have HB0 : Hid (BI (flipsI b at_ t 0) B (.slice A b.length capc) w g wC) := by rw [flipsI_zero]; exact HB
  clear HB
  go_loopw [9] (fun i wr => ∃ k : Nat, k ≤ 32 ∧ i = .int .i64 k ∧ Hid (BI (flipsI b at_ t k) B (.slice A b.length capc) w g wr)) (fun i _ => (32 - intOf i).toNat)
  case atStart => exact ⟨0, by omega, rfl, HB0⟩
  case round =>
    clear HB0
    obtain ⟨k, hk, rfl, HI⟩ := hrel
    have hb8 : (8 : Int) * (b.length : Int) ≤ 1125899906818816 := by omega
    have hb0 : (0 : Int) ≤ (b.length : Int) := by omega
    by_cases hkn : k < 32
    · have hbit := bit32 t k
      by_cases hneg : at_ < 0
      · have HS : Hid (BI (flipsI b at_ t (k + 1)) B (.slice A b.length capc) w g wr) := by rw [flipsI_skip b at_ t k (.inl hneg)]; exact HI
        clear hbit HI
        go_wp2
        all_goals
          go_roundw
          case rel => exact ⟨k + 1, by omega, by go_num, HS⟩
          case measure => simp [intOf]; omega
      · by_cases hbig : 8 * (b.length : Int) - 1 - k < at_
        · have HS : Hid (BI (flipsI b at_ t (k + 1)) B (.slice A b.length capc) w g wr) := by rw [flipsI_skip b at_ t k (.inr (.inl hbig))]; exact HI
          clear hbit HI
          go_wp2
          all_goals
            go_roundw
            case rel => exact ⟨k + 1, by omega, by go_num, HS⟩
            case measure => simp [intOf]; omega
        · by_cases hone : t.getLsbD k = true
          · obtain ⟨n, rfl⟩ := Int.eq_ofNat_of_zero_le (show 0 ≤ at_ by omega)
            rw [if_pos hone] at hbit
            have hp : n + k < 8 * b.length := by omega
            have hstep := flipsI_step b n t k hp hone
            obtain ⟨gc, rfl, hcell, hfr, hset⟩ := HI.out.drew.at_ ((n + k) / 8) (by rw [flipsI_length]; omega)
            generalize (flipsI b (n : Int) t k).getD ((n + k) / 8) 0#8 = c at *
            have hx := shl8 c ((n + k) % 8) (by omega)
            obtain ⟨c2, hc2⟩ : ∃ c2, c2 = c ^^^ BitVec.ofNat 8 (2 ^ ((n + k) % 8)) := ⟨_, rfl⟩
            rw [← hc2] at hx hstep
            have HS : Hid (BI (flipsI b (n : Int) t (k + 1)) B (.slice (some ⟨gc, 0, none⟩) b.length capc) w g (wr.drew.setCell ⟨gc, (n + k) / 8, none⟩ (u8 c2))) := by
              show BI _ _ _ _ _ _
              rw [hstep]; exact hset c2
            have w1 : IntKind.i64.wrap ((n : Int) + (k : Int)) = ((n + k : Nat) : Int) := by rw [IntKind.wrap_i64]; omega
            have w2 : ((n + k : Nat) : Int).tdiv 8 = (((n + k) / 8 : Nat) : Int) := by rw [Int.tdiv_eq_ediv_of_nonneg (by omega)]; omega
            have w3 : ((n + k : Nat) : Int).tmod 8 = (((n + k) % 8 : Nat) : Int) := by rw [Int.tmod_eq_emod_of_nonneg (by omega)]; omega
            have w4 : IntKind.i64.wrap (((n + k) / 8 : Nat) : Int) = (((n + k) / 8 : Nat) : Int) := by rw [IntKind.wrap_i64]; omega
            have n1 : (((n + k) / 8 : Nat) : Int) < (b.length : Int) := by omega
            have n4 : (((n + k) % 8 : Nat) : Int) ≤ 8 := by omega
            clear hc2 hset hstep HI hat hat2
            generalize (n + k) / 8 = j at *
            generalize (n + k) % 8 = m at *
            generalize n + k = p at *
            have hx' := hx
            rw [IntKind.wrap_u8] at hx'
            have n2 : (0 : Int) ≤ (j : Int) := by omega
            have n3 : (0 : Int) ≤ (m : Int) := by omega
            go_wp2
            go_region
            all_goals
              go_wp2
              go_roundw
              case rel => exact ⟨k + 1, by omega, by go_num, HS⟩
              case measure => simp [intOf]; omega
          · have HS : Hid (BI (flipsI b at_ t (k + 1)) B (.slice A b.length capc) w g wr) := by rw [flipsI_skip b at_ t k (.inr (.inr (by simpa using hone)))]; exact HI
            rw [if_neg hone] at hbit
            clear HI
            go_wp2
            all_goals
              go_roundw
              case rel => exact ⟨k + 1, by omega, by go_num, HS⟩
              case measure => simp [intOf]; omega
    · obtain rfl : k = 32 := by omega
      have hlaw := flipsI_law b at_ t
      have hlen := flipsI_length b at_ t 32
      generalize flipsI b at_ t 32 = cs at *
      have HK : Hid (BK b cs B (.slice A b.length capc) (.slice aa b.length capa) w g wr) := ⟨HI.out, HV.out.below HI.out.below⟩
      obtain ⟨s1, hs1⟩ : ∃ s1, strB b = s1 := ⟨_, rfl⟩
      obtain ⟨s2, hs2⟩ : ∃ s2, strB cs = s2 := ⟨_, rfl⟩
      obtain ⟨x, hx⟩ : ∃ x, refSum b = x := ⟨_, rfl⟩
      obtain ⟨y, hy⟩ : ∃ y, refSum cs = y := ⟨_, rfl⟩
      have hq : ∃ q : Bool, (s1.toList == s2.toList) = q ∧ ((x.toNat : Int) == (y.toNat : Int)) = q := by
        refine ⟨_, rfl, ?_⟩
        rw [Bool.eq_iff_iff, ← hs1, ← hs2, strB_eq, hlaw, hx, hy, beq_iff_eq]
        constructor
        · intro h; apply BitVec.eq_of_toNat_eq; omega
        · intro h; rw [h]
      obtain ⟨q, hq1, hq2⟩ := hq
      have HS1 := Lib.hid hs1
      have HS2 := Lib.hid hs2
      have HX := Lib.hid hx
      have HY := Lib.hid hy
      have hmc : cs.length ≤ 140737488351232 := by omega
      clear hs1 hs2 hx hy hlaw hlen HI HV hat hat2
      go_wp2_with fail
      have hsL := sizeL
      have huL := Try.underlying24
      refine wp_region_noPanic ?_
      refine wp_region_held_drew (S := fun w' => BKept b cs B (.slice A b.length capc) (.slice aa b.length capa) w g w' ∧ w'.rangeAt g 0 tabL ∧ (convert 28 9 (.slice aa b.length capa)).run Try.prog w' = .ok (.string s1) w' ∧ (convert 28 9 (.slice A b.length capc)).run Try.prog w' = .ok (.string s2) w') (by kernel_rfl) ?_ (fun hHeld => ?_)
      · exact BKept.drew HK.out HS1.out HS2.out
      refine wpAnyH_ready (rs := [0]) (by kernel_rfl) (by simp) ?_
      refine AllReadyH.cons (o := { dst := some 51, op := Op.call { callee := Callee.value (Operand.func 10), args := #[], argTypes := #[] }, type := 4, pos := "outright.go:41", after := #[], guard := none }) rfl (fun K hK => ?_) ?_
      · go_simp
        refine (alive_any _).mono ?_
        rintro e w1 ⟨rfl, hb1⟩
        have hS1 := BKept.next HS1.out HS2.out (by assumption) hb1
        clear hb1
        (try go_wp2_with fail)
        refine hK.out _ _ ?_ (fun hHeld => ?_)
        · exact hS1
        clear hK K
        (try simp only [Act.put, List.setIfInBounds_toArray, List.set_cons_zero, List.set_cons_succ])
        refine wpAnyH_take (i := 1) (oi := { dst := some 52, op := Op.move (Operand.tmp 51), type := 4, pos := "outright.go:41", after := #[{ on := 0, ground := Ground.data }, { on := 0, ground := Ground.chain }], guard := none }) (v := ?_) rfl (by kernel_rfl) (by kernel_rfl) (by kernel_rfl) (fun _ _ _ h => h) (Or.inl ⟨by rfl, ?_⟩) (by assumption) ?_
        rotate_left
        · (intro w9 hS9; (try dsimp only at hS9); go_simp); all_goals (with_reducible rfl)
        (try simp only [Act.put, List.setIfInBounds_toArray, List.set_cons_zero, List.set_cons_succ])
        refine wpAnyH_take (i := 2) (oi := { dst := some 53, op := Op.move (Operand.tmp 0), type := 28, pos := "outright.go:41", after := #[{ on := 1, ground := Ground.guard }], guard := some (1, true) }) (v := ?_) rfl (by kernel_rfl) (by kernel_rfl) (by kernel_rfl) (fun _ _ _ h => h) (Or.inl ⟨by rfl, ?_⟩) (by assumption) ?_
        rotate_left
        · (intro w9 hS9; (try dsimp only at hS9); go_simp); all_goals (with_reducible rfl)
        (try simp only [Act.put, List.setIfInBounds_toArray, List.set_cons_zero, List.set_cons_succ])
        refine wpAnyH_take (i := 3) (oi := { dst := some 54, op := Op.convert 28 9 (Operand.tmp 53), type := 9, pos := "outright.go:41", after := #[{ on := 2, ground := Ground.data }, { on := 1, ground := Ground.guard }], guard := some (1, true) }) (v := ?_) rfl (by kernel_rfl) (by kernel_rfl) (by kernel_rfl) (fun _ _ _ h => h) (Or.inl ⟨by rfl, ?_⟩) (by assumption) ?_
        rotate_left
        · (intro w9 hS9; (try dsimp only at hS9); go_simp); all_goals (with_reducible rfl)
        (try simp only [Act.put, List.setIfInBounds_toArray, List.set_cons_zero, List.set_cons_succ])
        refine wpAnyH_take (i := 4) (oi := { dst := some 55, op := Op.move (Operand.tmp 8), type := 28, pos := "outright.go:41", after := #[{ on := 1, ground := Ground.guard }], guard := some (1, true) }) (v := ?_) rfl (by kernel_rfl) (by kernel_rfl) (by kernel_rfl) (fun _ _ _ h => h) (Or.inl ⟨by rfl, ?_⟩) (by assumption) ?_
        rotate_left
        · (intro w9 hS9; (try dsimp only at hS9); go_simp); all_goals (with_reducible rfl)
        (try simp only [Act.put, List.setIfInBounds_toArray, List.set_cons_zero, List.set_cons_succ])
        refine wpAnyH_take (i := 5) (oi := { dst := some 56, op := Op.convert 28 9 (Operand.tmp 55), type := 9, pos := "outright.go:41", after := #[{ on := 4, ground := Ground.data }, { on := 1, ground := Ground.guard }], guard := some (1, true) }) (v := ?_) rfl (by kernel_rfl) (by kernel_rfl) (by kernel_rfl) (fun _ _ _ h => h) (Or.inl ⟨by rfl, ?_⟩) (by assumption) ?_
        rotate_left
        · (intro w9 hS9; (try dsimp only at hS9); go_simp); all_goals (with_reducible rfl)
        (try simp only [Act.put, List.setIfInBounds_toArray, List.set_cons_zero, List.set_cons_succ])
        refine wpAnyH_take (i := 6) (oi := { dst := some 57, op := Op.binOp BinOp.eql 9 (Operand.tmp 54) (Operand.tmp 56) 9, type := 4, pos := "outright.go:41", after := #[{ on := 3, ground := Ground.data }, { on := 5, ground := Ground.data }, { on := 1, ground := Ground.guard }], guard := some (1, true) }) (v := ?_) rfl (by kernel_rfl) (by kernel_rfl) (by kernel_rfl) (fun _ _ _ h => h) (Or.inl ⟨by rfl, ?_⟩) (by assumption) ?_
        rotate_left
        · (intro w9 hS9; (try dsimp only at hS9); go_simp); all_goals (with_reducible rfl)
        (try simp only [Act.put, List.setIfInBounds_toArray, List.set_cons_zero, List.set_cons_succ])
        refine wpAnyH_take (i := 7) (oi := { dst := some 58, op := Op.load 24 (Operand.tmp 7), type := 24, pos := "outright.go:41", after := #[{ on := 1, ground := Ground.guard }], guard := some (1, true) }) rfl (by kernel_rfl) (by kernel_rfl) (by kernel_rfl) (fun _ _ _ h => h) (yieldsIf_load_mid (by rfl) 24 _ rfl g 0 rfl tabL _ (fun _ h => h.2.1) huL rfl hsL) (by assumption) ?_
        (try simp only [Act.put, List.setIfInBounds_toArray, List.set_cons_zero, List.set_cons_succ])
        refine wpAnyH_take (i := 8) (oi := { dst := some 59, op := Op.move (Operand.tmp 0), type := 28, pos := "outright.go:41", after := #[{ on := 1, ground := Ground.guard }], guard := some (1, true) }) (v := ?_) rfl (by kernel_rfl) (by kernel_rfl) (by kernel_rfl) (fun _ _ _ h => h) (Or.inl ⟨by rfl, ?_⟩) (by assumption) ?_
        rotate_left
        · (intro w9 hS9; (try dsimp only at hS9); go_simp); all_goals (with_reducible rfl)
        (try simp only [Act.put, List.setIfInBounds_toArray, List.set_cons_zero, List.set_cons_succ])
        refine wpAnyH_take (i := 10) (oi := { dst := some 61, op := Op.load 24 (Operand.tmp 7), type := 24, pos := "outright.go:41", after := #[{ on := 1, ground := Ground.guard }], guard := some (1, true) }) rfl (by kernel_rfl) (by kernel_rfl) (by kernel_rfl) (fun _ _ _ h => h) (yieldsIf_load_mid (by rfl) 24 _ rfl g 0 rfl tabL _ (fun _ h => h.2.1) huL rfl hsL) (by assumption) ?_
        (try simp only [Act.put, List.setIfInBounds_toArray, List.set_cons_zero, List.set_cons_succ])
        refine wpAnyH_take (i := 11) (oi := { dst := some 62, op := Op.move (Operand.tmp 8), type := 28, pos := "outright.go:41", after := #[{ on := 1, ground := Ground.guard }], guard := some (1, true) }) (v := ?_) rfl (by kernel_rfl) (by kernel_rfl) (by kernel_rfl) (fun _ _ _ h => h) (Or.inl ⟨by rfl, ?_⟩) (by assumption) ?_
        rotate_left
        · (intro w9 hS9; (try dsimp only at hS9); go_simp); all_goals (with_reducible rfl)
        (try simp only [Act.put, List.setIfInBounds_toArray, List.set_cons_zero, List.set_cons_succ])
        refine wpAnyH_ready (rs := [9]) (by kernel_rfl) (by simp) ?_
        refine AllReadyH.cons (o := { dst := some 60, op := Op.call { callee := Callee.value (Operand.func 13), args := #[Operand.tmp 58, Operand.tmp 59], argTypes := #[24, 28] }, type := 23, pos := "outright.go:41", after := #[{ on := 7, ground := Ground.data }, { on := 8, ground := Ground.data }, { on := 1, ground := Ground.chain }, { on := 1, ground := Ground.guard }], guard := some (1, true) }) rfl (fun K hK => ?_) ?_
        · go_simp
          refine (sumP_any _ b x _ (BKept.sb (by assumption)) hm HX.out).mono ?_
          rintro e w1 ⟨rfl, hb1⟩
          have hS1 := BKept.next HS1.out HS2.out (by assumption) hb1
          clear hb1
          (try go_wp2_with fail)
          refine hK.out _ _ ?_ (fun hHeld => ?_)
          · exact hS1
          clear hK K
          (try simp only [Act.put, List.setIfInBounds_toArray, List.set_cons_zero, List.set_cons_succ])
          refine wpAnyH_ready (rs := [12]) (by kernel_rfl) (by simp) ?_
          refine AllReadyH.cons (o := { dst := some 63, op := Op.call { callee := Callee.value (Operand.func 13), args := #[Operand.tmp 61, Operand.tmp 62], argTypes := #[24, 28] }, type := 23, pos := "outright.go:41", after := #[{ on := 10, ground := Ground.data }, { on := 11, ground := Ground.data }, { on := 9, ground := Ground.chain }, { on := 1, ground := Ground.guard }], guard := some (1, true) }) rfl (fun K hK => ?_) ?_
          · go_simp
            refine (sumP_any _ cs y _ (BKept.sc (by assumption)) hmc HY.out).mono ?_
            rintro e w1 ⟨rfl, hb1⟩
            have hS1 := BKept.next HS1.out HS2.out (by assumption) hb1
            clear hb1
            (try go_wp2_with fail)
            refine hK.out _ _ ?_ (fun hHeld => ?_)
            · exact hS1
            clear hK K
            (try simp only [Act.put, List.setIfInBounds_toArray, List.set_cons_zero, List.set_cons_succ])
            refine wpAnyH_take (i := 13) (oi := { dst := some 64, op := Op.binOp BinOp.eql 23 (Operand.tmp 60) (Operand.tmp 63) 23, type := 4, pos := "outright.go:41", after := #[{ on := 9, ground := Ground.data }, { on := 12, ground := Ground.data }, { on := 1, ground := Ground.guard }], guard := some (1, true) }) (v := ?_) rfl (by kernel_rfl) (by kernel_rfl) (by kernel_rfl) (fun _ _ _ h => h) (Or.inl ⟨by rfl, ?_⟩) (by assumption) ?_
            rotate_left
            · (intro w9 hS9; (try dsimp only at hS9); go_simp); all_goals (with_reducible rfl)
            (try simp only [Act.put, List.setIfInBounds_toArray, List.set_cons_zero, List.set_cons_succ])
            refine wpAnyH_take (i := 14) (oi := { dst := some 65, op := Op.binOp BinOp.eql 4 (Operand.tmp 57) (Operand.tmp 64) 4, type := 4, pos := "outright.go:41", after := #[{ on := 6, ground := Ground.data }, { on := 13, ground := Ground.data }, { on := 1, ground := Ground.guard }], guard := some (1, true) }) (v := ?_) rfl (by kernel_rfl) (by kernel_rfl) (by kernel_rfl) (fun _ _ _ h => h) (Or.inl ⟨by rfl, ?_⟩) (by assumption) ?_
            rotate_left
            · (intro w9 hS9; (try dsimp only at hS9); go_simp); all_goals (with_reducible rfl)
            (try simp only [Act.put, List.setIfInBounds_toArray, List.set_cons_zero, List.set_cons_succ])
            refine wpAnyH_take (i := 15) (oi := { dst := some 66, op := Op.pick (Operand.tmp 52) (Operand.tmp 65) (Operand.const (Value.bool false)), type := 4, pos := "outright.go:41", after := #[{ on := 1, ground := Ground.data }, { on := 14, ground := Ground.data }], guard := none }) (v := ?_) rfl (by kernel_rfl) (by kernel_rfl) (by kernel_rfl) (fun _ _ _ h => h) (Or.inl ⟨by rfl, ?_⟩) (by assumption) ?_
            rotate_left
            · (intro w9 hS9; (try dsimp only at hS9); go_simp); all_goals (with_reducible rfl)
            (try simp only [Act.put, List.setIfInBounds_toArray, List.set_cons_zero, List.set_cons_succ])
            refine wpAnyH_take (i := 16) (oi := { dst := some 6, op := Op.assign (Operand.tmp 66), type := 4, pos := "outright.go:41", after := #[{ on := 15, ground := Ground.data }, { on := 12, ground := Ground.chain }, { on := 0, ground := Ground.phase }, { on := 1, ground := Ground.phase }, { on := 2, ground := Ground.phase }, { on := 3, ground := Ground.phase }, { on := 4, ground := Ground.phase }, { on := 5, ground := Ground.phase }, { on := 6, ground := Ground.phase }, { on := 7, ground := Ground.phase }, { on := 8, ground := Ground.phase }, { on := 9, ground := Ground.phase }, { on := 10, ground := Ground.phase }, { on := 11, ground := Ground.phase }, { on := 12, ground := Ground.phase }, { on := 13, ground := Ground.phase }, { on := 14, ground := Ground.phase }, { on := 15, ground := Ground.phase }], guard := none }) (v := ?_) rfl (by kernel_rfl) (by kernel_rfl) (by kernel_rfl) (fun _ _ _ h => h) (Or.inl ⟨by rfl, ?_⟩) (by assumption) ?_
            rotate_left
            · (intro w9 hS9; (try dsimp only at hS9); go_simp); all_goals (with_reducible rfl)
            (try simp only [Act.put, List.setIfInBounds_toArray, List.set_cons_zero, List.set_cons_succ])
            refine wpAnyH_done (by kernel_rfl) (NoPanic.normal ?_) _
            go_wp2_with fail
            go_ret
            exact ⟨by simp, BKept.below (by assumption)⟩
          exact AllReadyH.nil
        exact AllReadyH.nil
      exact AllReadyH.nil

end Go.Proofs.Ytbbanicjlfabgaa
