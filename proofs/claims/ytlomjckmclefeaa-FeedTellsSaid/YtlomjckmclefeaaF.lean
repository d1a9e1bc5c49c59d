/- The feed: Pour. -/
import Derived.Test.YtlomjckmclefeaaD
import Derived.LaidEqlPtr
namespace Go.Proofs.Ytlomjckmclefeaa
set_option linter.unusedVariables false
set_option linter.unusedSimpArgs false
open Go.Conc Go.RowKit

/-- What a pouring leaves: both feeds' lists, and how many were moved. -/
structure Poured where
  U : List Int
  N : List Int
  U2 : List Int
  N2 : List Int
  k : Nat
def pourN (m : Nat) (U2 : List Int) : List Int → List Int → Poured
  | [], N2 => ⟨[], [], U2, N2, 0⟩
  | x :: N, N2 => if N2.length < m then { pourN m U2 N (N2 ++ [x]) with k := (pourN m U2 N (N2 ++ [x])).k + 1 } else ⟨[], x :: N, U2, N2, 0⟩
def pourU (m : Nat) (N N2 : List Int) : List Int → List Int → Poured
  | [], U2 => pourN m U2 N N2
  | x :: U, U2 => if U2.length < m then { pourU m N N2 U (U2 ++ [x]) with k := (pourU m N N2 U (U2 ++ [x])).k + 1 } else ⟨x :: U, N, U2, N2, 0⟩
theorem pourN_le (m : Nat) (U2 : List Int) : ∀ (N N2 : List Int), (pourN m U2 N N2).k ≤ N.length
  | [], N2 => Nat.le_refl _
  | x :: N, N2 => by
    unfold pourN
    split
    · have := pourN_le m U2 N (N2 ++ [x]); simp; omega
    · simp
theorem pourU_le (m : Nat) (N N2 : List Int) : ∀ (U U2 : List Int), (pourU m N N2 U U2).k ≤ U.length + N.length
  | [], U2 => by have := pourN_le m U2 N N2; simp [pourU]; exact this
  | x :: U, U2 => by
    unfold pourU
    split
    · have := pourU_le m N N2 U (U2 ++ [x]); simp; omega
    · simp
theorem pourN_all (m : Nat) (U2 : List Int) : ∀ (N N2 : List Int), N2.length + N.length ≤ m → pourN m U2 N N2 = ⟨[], [], U2, N2 ++ N, N.length⟩
  | [], N2, _ => by simp [pourN]
  | x :: N, N2, h => by
    simp at h
    rw [pourN, if_pos (by omega), pourN_all m U2 N (N2 ++ [x]) (by simp; omega)]
    simp
theorem pourU_all (m : Nat) (N N2 : List Int) (hN : N2.length + N.length ≤ m) : ∀ (U U2 : List Int), U2.length + U.length ≤ m → pourU m N N2 U U2 = ⟨[], [], U2 ++ U, N2 ++ N, U.length + N.length⟩
  | [], U2, _ => by simp [pourU, pourN_all m U2 N N2 hN]
  | x :: U, U2, h => by
    simp at h
    rw [pourU, if_pos (by omega), pourU_all m N N2 hN U (U2 ++ [x]) (by simp; omega)]
    simp; omega

/-- Both feeds while a pouring runs. -/
structure PourAt (w wr : World) (b cu cn n b2 cu2 cn2 m : Nat) (cl : Bool) (U N U2 N2 : List Int) : Prop where
  f : FeedAt wr b cu cn n U N cl
  t : FeedAt wr b2 cu2 cn2 m U2 N2 false
  upd : Upd [cu, cn, cu2, cn2] w wr
/-- Two feeds with nothing in common. -/
structure Apart (b cu cn b2 cu2 cn2 : Nat) : Prop where
  l : b2 ≠ b ∧ b2 ≠ cu ∧ b2 ≠ cn ∧ cu2 ≠ b ∧ cu2 ≠ cu ∧ cu2 ≠ cn ∧ cn2 ≠ b ∧ cn2 ≠ cu ∧ cn2 ≠ cn
theorem PourAt.start {w : World} {b cu cn n b2 cu2 cn2 m : Nat} {cl : Bool} {U N U2 N2 : List Int} (h : FeedAt w b cu cn n U N cl) (h2 : FeedAt w b2 cu2 cn2 m U2 N2 false) : PourAt w w b cu cn n b2 cu2 cn2 m cl U N U2 N2 := ⟨h, h2, Upd.refl _ _⟩
theorem PourAt.drew {w wr : World} {b cu cn n b2 cu2 cn2 m : Nat} {cl : Bool} {U N U2 N2 : List Int} (h : PourAt w wr b cu cn n b2 cu2 cn2 m cl U N U2 N2) : PourAt w wr.drew b cu cn n b2 cu2 cn2 m cl U N U2 N2 :=
  ⟨h.f.drew, h.t.drew, h.upd.trans (upd_drew _ _)⟩
theorem PourAt.pop {w wr w1 : World} {b cu cn n b2 cu2 cn2 m : Nat} {cl : Bool} {U N U2 N2 U' N' : List Int} (d : Apart b cu cn b2 cu2 cn2) (h : PourAt w wr b cu cn n b2 cu2 cn2 m cl U N U2 N2) (hf : FeedAt w1 b cu cn n U' N' cl) (k : Upd [cu, cn] wr w1) : PourAt w w1 b cu cn n b2 cu2 cn2 m cl U' N' U2 N2 := by
  have d := d.l
  exact ⟨hf, h.t.upd k (by simp; omega) (by simp; omega) (by simp; omega), h.upd.trans (k.more (by intro i hi; simp at hi ⊢; omega))⟩
theorem PourAt.push {w wr w1 : World} {b cu cn n b2 cu2 cn2 m : Nat} {cl : Bool} {U N U2 N2 U' N' : List Int} (d : Apart b cu cn b2 cu2 cn2) (h : PourAt w wr b cu cn n b2 cu2 cn2 m cl U N U2 N2) (hf : FeedAt w1 b2 cu2 cn2 m U' N' false) (k : Upd [cu2, cn2] wr w1) : PourAt w w1 b cu cn n b2 cu2 cn2 m cl U N U' N' := by
  have d := d.l
  exact ⟨h.f.upd k (by simp; omega) (by simp; omega) (by simp; omega), hf, h.upd.trans (k.more (by intro i hi; simp at hi ⊢; omega))⟩

theorem info49 : ∃ j, Try.prog.info? 49 = some j ∧ j.size ≠ 0 := by
  have h : (Try.prog.info? 49).map (·.size) = some 3 := by kernel_rfl
  cases hj : Try.prog.info? 49 with
  | none => rw [hj] at h; cases h
  | some j => rw [hj] at h; simp at h; exact ⟨j, rfl, by rw [h]; decide⟩
theorem eql_self (b : Nat) (w : World) : (binOp .eql 24 (.pointer (some ⟨b, 0, none⟩)) (.pointer (some ⟨b, 0, none⟩))).run Try.prog w = .ok (.bool true) w := by
  obtain ⟨j, hj, -⟩ := info49
  exact run_eql_ptr_same w _ Try.underlying24 hj
theorem eql_other {b cu cn n b2 cu2 cn2 m : Nat} {U N U2 N2 : List Int} {cl cl2 : Bool} {w : World} (h : FeedAt w b cu cn n U N cl) (h2 : FeedAt w b2 cu2 cn2 m U2 N2 cl2) (hne : b ≠ b2) :
    (binOp .eql 24 (.pointer (some ⟨b, 0, none⟩)) (.pointer (some ⟨b2, 0, none⟩))).run Try.prog w = .ok (.bool false) w := by
  obtain ⟨j, hj, hs⟩ := info49
  exact run_eql_ptr_other w Try.underlying24 hj hs (fun c => hne (by injection c)) h.box h2.box

set_option maxRecDepth 100000 in
theorem pour_shut (b cu cn n b2 cu2 cn2 m : Nat) (U N U2 N2 : List Int) (cl : Bool) (hne : b ≠ b2) (w : World) (h : FeedAt w b cu cn n U N cl) (h2 : FeedAt w b2 cu2 cn2 m U2 N2 true) :
    Calls Try.prog 15 #[.pointer (some ⟨b, 0, none⟩), .pointer (some ⟨b2, 0, none⟩)] w fun e w' => e = .returned (.tuple #[.int .i64 0, .int .i64 7]) ∧ w = w' := by
  have M1 := Lib.hid (made_any _ _ _ _ _ _ _ _ h)
  have M2 := Lib.hid (made_any _ _ _ _ _ _ _ _ h2)
  obtain ⟨-, -, q2⟩ := h2.cells
  have hd := eql_other h h2 hne
  clear h h2 hne
  go_enter Try.func15, Try.ntmps15
  go_wp2_with (first
    | (go_at_call 16; (with_reducible refine M1.out.mono ?_); rintro e w1 ⟨rfl, rfl⟩)
    | (go_at_call 16; (with_reducible refine M2.out.mono ?_); rintro e w1 ⟨rfl, rfl⟩))
  exact bodyPost_ret (v := .tuple #[.int .i64 0, .int .i64 7]) (by simp [results, Try.results15, go_sem]) rfl ⟨rfl, rfl⟩
set_option maxRecDepth 100000 in
theorem pour_self (b cu cn n : Nat) (U N : List Int) (cl : Bool) (w : World) (h : FeedAt w b cu cn n U N cl) :
    Calls Try.prog 15 #[.pointer (some ⟨b, 0, none⟩), .pointer (some ⟨b, 0, none⟩)] w fun e w' => e = .returned (.tuple #[.int .i64 0, .int .i64 1]) ∧ w = w' := by
  have M1 := Lib.hid (made_any _ _ _ _ _ _ _ _ h)
  have hd := eql_self b w
  clear h
  go_enter Try.func15, Try.ntmps15
  go_wp2_with (first
    | (go_at_call 16; (with_reducible refine M1.out.mono ?_); rintro e w1 ⟨rfl, rfl⟩))
  exact bodyPost_ret (v := .tuple #[.int .i64 0, .int .i64 1]) (by simp [results, Try.results15, go_sem]) rfl ⟨rfl, rfl⟩

set_option maxRecDepth 100000 in
set_option maxHeartbeats 4000000 in
/-- Pour's contract, into an open feed. -/
theorem pour_any (b cu cn n b2 cu2 cn2 m : Nat) (U N U2 N2 : List Int) (cl : Bool) (d : Apart b cu cn b2 cu2 cn2) (w : World) (h : FeedAt w b cu cn n U N cl) (h2 : FeedAt w b2 cu2 cn2 m U2 N2 false) :
    Calls Try.prog 15 #[.pointer (some ⟨b, 0, none⟩), .pointer (some ⟨b2, 0, none⟩)] w fun e w' => e = .returned (.tuple #[.int .i64 ((pourU m N N2 U U2).k : Int), .int .i64 0]) ∧
      PourAt w w' b cu cn n b2 cu2 cn2 m cl (pourU m N N2 U U2).U (pourU m N N2 U U2).N (pourU m N N2 U U2).U2 (pourU m N N2 U U2).N2 := by
  have M1 := Lib.hid (made_any _ _ _ _ _ _ _ _ h)
  have M2 := Lib.hid (made_any _ _ _ _ _ _ _ _ h2)
  obtain ⟨-, -, q2⟩ := h2.cells
  have hd := eql_other h h2 (fun c => d.l.1 c.symm)
  have H0 := Lib.hid (PourAt.start h h2)
  have HK : Hid ((pourU m N N2 U U2).k ≤ 512) := by show _ ≤ _; have := pourU_le m N N2 U U2; have := h.lu; have := h.ln; have := h.n256; omega
  obtain ⟨R, hR⟩ : ∃ R, pourU m N N2 U U2 = R := ⟨_, rfl⟩
  rw [hR] at HK ⊢
  have HR := Lib.hid hR
  have HD := Lib.hid d
  clear h h2 d hR
  go_enter Try.func15, Try.ntmps15
  go_wp2_with (first
    | (go_at_call 16; (with_reducible refine M1.out.mono ?_); rintro e w1 ⟨rfl, rfl⟩)
    | (go_at_call 16; (with_reducible refine M2.out.mono ?_); rintro e w1 ⟨rfl, rfl⟩))
  go_loopw [6] (fun i wr => ∃ (k : Nat) (U N U2 N2 : List Int), i = .int .i64 k ∧ PourAt w wr b cu cn n b2 cu2 cn2 m cl U N U2 N2 ∧ ∃ P, pourU m N N2 U U2 = P ∧ P.U = R.U ∧ P.N = R.N ∧ P.U2 = R.U2 ∧ P.N2 = R.N2 ∧ k + P.k = R.k) (fun i _ => (512 - intOf i).toNat)
  case atStart => exact ⟨0, U, N, U2, N2, rfl, H0.out, R, HR.out, rfl, rfl, rfl, rfl, by omega⟩
  case round =>
    clear M1 M2 H0 HR q2
    obtain ⟨k, U, N, U2, N2, rfl, hP, P, hPe, p1, p2, p3, p4, p5⟩ := hrel
    have hlu := hP.f.lu
    have hln := hP.f.ln
    have h256 := hP.f.n256
    have hm := hP.t.n256
    have hlu2 := hP.t.lu
    have hln2 := hP.t.ln
    obtain ⟨w1, hw1⟩ : ∃ w1, w1 = wr.drew := ⟨_, rfl⟩
    have hP1 : PourAt w w1 b cu cn n b2 cu2 cn2 m cl U N U2 N2 := by rw [hw1]; exact hP.drew
    have L1 : Hid (Calls Try.prog 12 #[.pointer (some ⟨b, 0, none⟩)] wr fun e w' => e = .returned (.int .i64 ((U.length + N.length : Nat) : Int)) ∧ w' = w1) := by rw [hw1]; exact len_any b cu cn n U N cl wr hP.f
    clear hP hw1
    have HP1 := Lib.hid hP1
    by_cases hU : U = []
    · subst hU
      by_cases hN : N = []
      · subst hN
        obtain rfl : P = ⟨[], [], U2, N2, 0⟩ := by rw [← hPe]; rfl
        have e1 : k = R.k := by simpa using p5
        have HE : Hid (PourAt w w1 b cu cn n b2 cu2 cn2 m cl R.U R.N R.U2 R.N2) := by rw [← p1, ← p2, ← p3, ← p4]; exact hP1
        clear p1 p2 p3 p4 p5 hPe hlu hln h256 hm hlu2 hln2 hP1 HP1
        subst e1
        go_wp2_with (go_at_call 12; (with_reducible refine L1.out.mono ?_); rintro e w2 ⟨rfl, rfl⟩)
        exact bodyPost_ret (v := .tuple #[.int .i64 (R.k : Int), .int .i64 0]) (by simp [results, Try.results15, go_sem]) rfl ⟨rfl, HE.out⟩
      · obtain ⟨x, N', rfl⟩ : ∃ x L, N = x :: L := by
          cases N with
          | nil => exact absurd rfl hN
          | cons x L => exact ⟨x, L, rfl⟩
        clear hN
        obtain ⟨q0, q1, q2⟩ := hP1.f.cells
        obtain ⟨s0, r0, hc0⟩ := hP1.f.urg
        obtain ⟨s2, r2, hc2⟩ := hP1.t.usu
        have l0 : ∀ ty, (Builtin.len_ #[47] ty #[.chan (some cu)]).run Try.prog w1 = .ok (.int .i64 (([] : List Int).length : Int)) w1 := fun ty => by
          have := run_len_chan (P := Try.prog) (w := w1) 47 ty Try.underlying47 (c := cu) hc0
          rw [vals_size] at this; exact this
        have l2 : ∀ ty, (Builtin.len_ #[47] ty #[.chan (some cn2)]).run Try.prog w1 = .ok (.int .i64 (N2.length : Int)) w1 := fun ty => by
          have := run_len_chan (P := Try.prog) (w := w1) 47 ty Try.underlying47 (c := cn2) hc2
          rw [vals_size] at this; exact this
        have l3 : ∀ ty, (Builtin.cap_ #[47] ty #[.chan (some cn2)]).run Try.prog w1 = .ok (.int .i64 (m : Int)) w1 := fun ty =>
          run_cap_chan (P := Try.prog) (w := w1) 47 ty Try.underlying47 (c := cn2) hc2
        have L2 := Lib.hid (lane_n b2 cu2 cn2 m U2 N2 false w1 hP1.t)
        have d0 : decide (0 < ((([] : List Int).length + (x :: N').length : Nat) : Int)) = true := decide_eq_true (by simp; try omega)
        have d1 : decide (0 < (([] : List Int).length : Int)) = false := by simp
        generalize (((([] : List Int).length + (x :: N').length : Nat)) : Int) = t0 at *
        generalize (([] : List Int).length : Int) = t1 at *
        by_cases hroom : N2.length < m
        · have d2 : ((N2.length : Int) == (m : Int)) = false := beq_eq_false_iff_ne.2 (by omega)
          have c := pop_any b cu cn n ([] : List Int) (x :: N') cl w1 hP1.f
          rw [show popX ([] : List Int) (x :: N') = x from rfl, show popE ([] : List Int) (x :: N') cl = 0 from rfl, show ([] : List Int).tail = [] from rfl, show popN ([] : List Int) (x :: N') = N' from rfl] at c
          have C := Lib.hid c
          have HP2 : Hid (∀ W, FeedAt W b2 cu2 cn2 m U2 N2 false → Calls Try.prog 8 #[.pointer (some ⟨b2, 0, none⟩), .int .i64 x, .bool false] W fun e w' => e = .returned (.int .i64 0) ∧ FeedAt w' b2 cu2 cn2 m U2 (N2 ++ [x]) false ∧ Upd [cu2, cn2] W w') := fun W hW => by
            have c := push_any b2 cu2 cn2 m U2 N2 false x false W hW
            rw [show pushE m U2 N2 false false = 0 by simp [pushE, hroom], show pushU m U2 false false x = U2 by simp [pushU, hroom], show pushN m N2 false false x = N2 ++ [x] by simp [pushN, hroom]] at c
            exact c
          have HS : Hid (∃ P, pourU m N' (N2 ++ [x]) [] U2 = P ∧ P.U = R.U ∧ P.N = R.N ∧ P.U2 = R.U2 ∧ P.N2 = R.N2 ∧ k + 1 + P.k = R.k) := by
            rw [pourU, pourN, if_pos hroom] at hPe
            subst hPe
            exact ⟨_, rfl, p1, p2, p3, p4, by simp only at p5; rw [← p5, pourU]; omega⟩
          have hk : k < 512 := by have := HK.out; obtain ⟨P', -, -, -, -, -, e⟩ := HS.out; omega
          have e9 : IntKind.i64.wrap ((k : Int) + 1) = ((k + 1 : Nat) : Int) := by rw [IntWalk.i64_in _ (by omega)]; omega
          have HK1 := Lib.hid hk
          clear p1 p2 p3 p4 p5 hPe hlu hln h256 hm hlu2 hln2 hP1 hroom hk hc0 hc2 c
          go_wp2_with (first
            | (go_at_call 12; (with_reducible refine L1.out.mono ?_); rintro e w2 ⟨rfl, rfl⟩)
            | (go_at_call 17; (with_reducible refine L2.out.mono ?_); rintro e w2 ⟨rfl, rfl⟩)
            | (go_at_call 11; (with_reducible refine C.out.mono ?_); rintro e w2 ⟨rfl, hf, hu⟩; have HQ2 := Lib.hid (PourAt.pop HD.out HP1.out hf hu); clear hf hu)
            | (go_at_call 8; (with_reducible refine (HP2.out _ HQ2.out.t).mono ?_); rintro e w3 ⟨rfl, hf, hu⟩; have HQ3 := Lib.hid (PourAt.push HD.out HQ2.out hf hu); clear hf hu))
          go_roundw
          case rel => exact ⟨k + 1, [], N', U2, N2 ++ [x], rfl, HQ3.out, HS.out⟩
          case measure => have := HK1.out; simp [intOf]; omega
        · have d2 : ((N2.length : Int) == (m : Int)) = true := beq_iff_eq.2 (by omega)
          obtain rfl : P = ⟨[], x :: N', U2, N2, 0⟩ := by rw [← hPe]; rw [pourU, pourN, if_neg hroom]
          have e1 : k = R.k := by simpa using p5
          have HE : Hid (PourAt w w1 b cu cn n b2 cu2 cn2 m cl R.U R.N R.U2 R.N2) := by rw [← p1, ← p2, ← p3, ← p4]; exact hP1
          clear p1 p2 p3 p4 p5 hPe hlu hln h256 hm hlu2 hln2 hP1 HP1 hroom hc0 hc2
          subst e1
          go_wp2_with (first
            | (go_at_call 12; (with_reducible refine L1.out.mono ?_); rintro e w2 ⟨rfl, rfl⟩)
            | (go_at_call 17; (with_reducible refine L2.out.mono ?_); rintro e w2 ⟨rfl, rfl⟩))
          exact bodyPost_ret (v := .tuple #[.int .i64 (R.k : Int), .int .i64 0]) (by simp [results, Try.results15, go_sem]) rfl ⟨rfl, HE.out⟩
    · obtain ⟨x, U', rfl⟩ : ∃ x L, U = x :: L := by
        cases U with
        | nil => exact absurd rfl hU
        | cons x L => exact ⟨x, L, rfl⟩
      clear hU
      obtain ⟨q0, q1, q2⟩ := hP1.f.cells
      obtain ⟨s0, r0, hc0⟩ := hP1.f.urg
      obtain ⟨s2, r2, hc2⟩ := hP1.t.urg
      have l0 : ∀ ty, (Builtin.len_ #[47] ty #[.chan (some cu)]).run Try.prog w1 = .ok (.int .i64 ((x :: U').length : Int)) w1 := fun ty => by
        have := run_len_chan (P := Try.prog) (w := w1) 47 ty Try.underlying47 (c := cu) hc0
        rw [vals_size] at this; exact this
      have l2 : ∀ ty, (Builtin.len_ #[47] ty #[.chan (some cu2)]).run Try.prog w1 = .ok (.int .i64 (U2.length : Int)) w1 := fun ty => by
        have := run_len_chan (P := Try.prog) (w := w1) 47 ty Try.underlying47 (c := cu2) hc2
        rw [vals_size] at this; exact this
      have l3 : ∀ ty, (Builtin.cap_ #[47] ty #[.chan (some cu2)]).run Try.prog w1 = .ok (.int .i64 (m : Int)) w1 := fun ty =>
        run_cap_chan (P := Try.prog) (w := w1) 47 ty Try.underlying47 (c := cu2) hc2
      have L2 := Lib.hid (lane_u b2 cu2 cn2 m U2 N2 false w1 hP1.t)
      have d0 : decide (0 < (((x :: U').length + N.length : Nat) : Int)) = true := decide_eq_true (by simp; try omega)
      have d1 : decide (0 < ((x :: U').length : Int)) = true := decide_eq_true (by simp; try omega)
      generalize ((((x :: U').length + N.length : Nat)) : Int) = t0 at *
      generalize ((x :: U').length : Int) = t1 at *
      by_cases hroom : U2.length < m
      · have d2 : ((U2.length : Int) == (m : Int)) = false := beq_eq_false_iff_ne.2 (by omega)
        have c := pop_any b cu cn n (x :: U') N cl w1 hP1.f
        rw [show popX (x :: U') N = x from rfl, show popE (x :: U') N cl = 0 from rfl, show (x :: U').tail = U' from rfl, show popN (x :: U') N = N from rfl] at c
        have C := Lib.hid c
        have HP2 : Hid (∀ W, FeedAt W b2 cu2 cn2 m U2 N2 false → Calls Try.prog 8 #[.pointer (some ⟨b2, 0, none⟩), .int .i64 x, .bool true] W fun e w' => e = .returned (.int .i64 0) ∧ FeedAt w' b2 cu2 cn2 m (U2 ++ [x]) N2 false ∧ Upd [cu2, cn2] W w') := fun W hW => by
          have c := push_any b2 cu2 cn2 m U2 N2 false x true W hW
          rw [show pushE m U2 N2 false true = 0 by simp [pushE, hroom], show pushU m U2 false true x = U2 ++ [x] by simp [pushU, hroom], show pushN m N2 false true x = N2 by simp [pushN, hroom]] at c
          exact c
        have HS : Hid (∃ P, pourU m N N2 U' (U2 ++ [x]) = P ∧ P.U = R.U ∧ P.N = R.N ∧ P.U2 = R.U2 ∧ P.N2 = R.N2 ∧ k + 1 + P.k = R.k) := by
          rw [pourU, if_pos hroom] at hPe
          subst hPe
          exact ⟨_, rfl, p1, p2, p3, p4, by simp only at p5; rw [← p5]; omega⟩
        have hk : k < 512 := by have := HK.out; obtain ⟨P', -, -, -, -, -, e⟩ := HS.out; omega
        have e9 : IntKind.i64.wrap ((k : Int) + 1) = ((k + 1 : Nat) : Int) := by rw [IntWalk.i64_in _ (by omega)]; omega
        have HK1 := Lib.hid hk
        clear p1 p2 p3 p4 p5 hPe hlu hln h256 hm hlu2 hln2 hP1 hroom hk hc0 hc2 c
        go_wp2_with (first
          | (go_at_call 12; (with_reducible refine L1.out.mono ?_); rintro e w2 ⟨rfl, rfl⟩)
          | (go_at_call 17; (with_reducible refine L2.out.mono ?_); rintro e w2 ⟨rfl, rfl⟩)
          | (go_at_call 11; (with_reducible refine C.out.mono ?_); rintro e w2 ⟨rfl, hf, hu⟩; have HQ2 := Lib.hid (PourAt.pop HD.out HP1.out hf hu); clear hf hu)
          | (go_at_call 8; (with_reducible refine (HP2.out _ HQ2.out.t).mono ?_); rintro e w3 ⟨rfl, hf, hu⟩; have HQ3 := Lib.hid (PourAt.push HD.out HQ2.out hf hu); clear hf hu))
        go_roundw
        case rel => exact ⟨k + 1, U', N, U2 ++ [x], N2, rfl, HQ3.out, HS.out⟩
        case measure => have := HK1.out; simp [intOf]; omega
      · have d2 : ((U2.length : Int) == (m : Int)) = true := beq_iff_eq.2 (by omega)
        obtain rfl : P = ⟨x :: U', N, U2, N2, 0⟩ := by rw [← hPe]; rw [pourU, if_neg hroom]
        have e1 : k = R.k := by simpa using p5
        have HE : Hid (PourAt w w1 b cu cn n b2 cu2 cn2 m cl R.U R.N R.U2 R.N2) := by rw [← p1, ← p2, ← p3, ← p4]; exact hP1
        clear p1 p2 p3 p4 p5 hPe hlu hln h256 hm hlu2 hln2 hP1 HP1 hroom hc0 hc2
        subst e1
        go_wp2_with (first
          | (go_at_call 12; (with_reducible refine L1.out.mono ?_); rintro e w2 ⟨rfl, rfl⟩)
          | (go_at_call 17; (with_reducible refine L2.out.mono ?_); rintro e w2 ⟨rfl, rfl⟩))
        exact bodyPost_ret (v := .tuple #[.int .i64 (R.k : Int), .int .i64 0]) (by simp [results, Try.results15, go_sem]) rfl ⟨rfl, HE.out⟩

end Go.Proofs.Ytlomjckmclefeaa

