import Derived.Test.YtcaeaepnobbjlaaXa
import Derived.Test.YtcaeaepnobbjlaaXk
import Derived.Deep.CutBlock
import Derived.Deep.DeepCutAuto
namespace Go.Proofs.Ytcaeaepnobbjlaa
set_option linter.unusedVariables false
set_option linter.unusedSimpArgs false
open Go.RowKit

set_option maxRecDepth 100000 in
set_option maxHeartbeats 8000000 in
theorem div64_walk (hi lo y s j v p t h1 l1 u z c1 c0 q1 r1 Q1 u21 q2 r2 Q0 qq rr : Nat) (m1 m2 x1 x2 x3 y1 y2 y3 y4 y5 : Int)
    (hS : ∀ w, Calls Try.prog 83 #[.int .u64 y] w fun e w' => e = .returned (.int .i64 (s : Int)) ∧ w' = w)
    (hy : 1 ≤ y) (hh : hi < y) (h0 : 1 ≤ hi) (k1 : KC p t u c1) (k0 : KC p t u21 c0) (i1 : KI p t u c1 q1 r1) (i0 : KI p t u21 c0 q2 r2)
    (hQ1 : (u * 4294967296 + c1) / (p * 4294967296 + t) = Q1) (hQ0 : (u21 * 4294967296 + c0) / (p * 4294967296 + t) = Q0)
    (f0 : IntKind.u64.wrap (s : Int) = s) (f1 : IntKind.u64.wrap ((y : Int) * 2 ^ min s 64) = v)
    (f2 : (v : Int) / 4294967296 = p) (f3 : bits .and .u64 (v : Int) 4294967295 = t)
    (f4 : IntKind.u64.wrap ((hi : Int) * 2 ^ min s 64) = h1) (f5 : IntKind.u64.wrap (64 - (s : Int)) = j) (f6 : (lo : Int) / 2 ^ min j 64 = l1) (f7 : bits .or .u64 (h1 : Int) (l1 : Int) = u)
    (f8 : IntKind.u64.wrap ((lo : Int) * 2 ^ min s 64) = z) (f9 : (z : Int) / 4294967296 = c1) (f10 : bits .and .u64 (z : Int) 4294967295 = c0)
    (g1 : IntKind.u64.wrap ((u : Int) / p) = q1) (g2 : IntKind.u64.wrap ((q1 : Int) * p) = m1) (g3 : IntKind.u64.wrap ((u : Int) - m1) = r1)
    (g4 : IntKind.u64.wrap ((u : Int) * 4294967296) = x1) (g5 : IntKind.u64.wrap (x1 + c1) = x2) (g6 : IntKind.u64.wrap ((Q1 : Int) * v) = x3) (g7 : IntKind.u64.wrap (x2 - x3) = u21)
    (g8 : IntKind.u64.wrap ((u21 : Int) / p) = q2) (g9 : IntKind.u64.wrap ((q2 : Int) * p) = m2) (g10 : IntKind.u64.wrap ((u21 : Int) - m2) = r2)
    (b1 : IntKind.u64.wrap ((Q1 : Int) * 4294967296) = y1) (b2 : IntKind.u64.wrap (y1 + Q0) = qq)
    (b3 : IntKind.u64.wrap ((u21 : Int) * 4294967296) = y2) (b4 : IntKind.u64.wrap (y2 + c0) = y3) (b5 : IntKind.u64.wrap ((Q0 : Int) * v) = y4) (b6 : IntKind.u64.wrap (y3 - y4) = y5) (b7 : y5 / 2 ^ min s 64 = rr) (b8 : 0 ≤ y5)
    (w : World) :
    Calls Try.prog 81 #[.int .u64 hi, .int .u64 lo, .int .u64 y] w fun e w' => e = .returned (.tuple #[.int .u64 qq, .int .u64 rr]) ∧ w' = w := by
  have d1 : ((y : Int) == 0) = false := by simp; omega
  have d2 : decide (y ≤ hi) = false := by simp; omega
  have d3 : ((hi : Int) == 0) = false := by simp; omega
  have d4 : (p : Int) ≠ 0 := by have := k1.hp1; omega
  have HS := Lib.hid hS
  have HKc1 := Lib.hid k1
  have HKc0 := Lib.hid k0
  have HI1 := Lib.hid i1
  have HI0 := Lib.hid i0
  have HQc1 := Lib.hid hQ1
  have HQc0 := Lib.hid hQ0
  clear hS hy hh h0 k1 k0 i1 i0 hQ1 hQ0
  go_enter Try.func81, Try.ntmps81
  go_upto_block 0 with (go_at_call 83; refine (HS.out _).mono ?_; rintro e w1 ⟨rfl, rfl⟩)
  go_cut [15, 16] from 67 to 85 (fun x y wx => x = .int .u64 (Q1 : Int) ∧ w1 = wx)
  case first =>
    clear g4 g5 g6 g7 g8 g9 g10 b1 b2 b3 b4 b5 b6 b7
    go_wp2_with fail
    go_loop [15, 16] (fun x y => ∃ q r : Nat, x = .int .u64 (q : Int) ∧ y = .int .u64 (r : Int) ∧ Hid (KI p t u c1 q r)) (fun x _ => (intOf x).toNat)
    case atStart => exact ⟨_, _, rfl, rfl, HI1⟩
    case round =>
      obtain ⟨q, r, rfl, rfl, hI⟩ := hrel
      have hq := hI.out.hq
      have hr := hI.out.hr
      have hp2 := HKc1.out.hp2
      have ht2 := HKc1.out.ht
      have hc2 := HKc1.out.hc
      by_cases hb : 4294967296 ≤ q
      · have hd : decide ((q : Int) ≥ 4294967296) = true := by simp; omega
        obtain ⟨hl, h1⟩ := hI.out.less HKc1.out (Or.inl hb)
        have e4 : IntKind.u64.wrap ((q : Int) - 1) = ((q - 1 : Nat) : Int) := by rw [IntKind.wrap_u64]; omega
        have e5 : IntKind.u64.wrap ((r : Int) + p) = ((r + p : Nat) : Int) := by rw [IntKind.wrap_u64]; omega
        have HH := Lib.hid (Or.inl hb : 4294967296 ≤ q ∨ 4294967296 * r + c1 < q * t)
        have H1 := Lib.hid h1
        clear hl h1 hb hq
        by_cases hx : 4294967296 ≤ r + p
        · have hd5 : decide (((r + p : Nat) : Int) ≥ 4294967296) = true := by simp; omega
          have HB := Lib.hid (hI.out.brk HKc1.out HH.out hx)
          clear hx hr hp2 ht2 hc2
          generalize r + p = rp at *
          generalize q - 1 = qm at *
          go_wp2_with fail
          go_meet
          case rel => exact ⟨by rw [← HB.out, HQc1.out], rfl⟩
        · have hd5 : decide (((r + p : Nat) : Int) ≥ 4294967296) = false := by simp; omega
          have HN : Hid (KI p t u c1 (q - 1) (r + p)) := hI.out.next HKc1.out HH.out (by omega)
          have HM : Hid (q - 1 < q) := by have := H1.out; show _ < _; omega
          clear hx hr hp2 ht2 hc2
          generalize r + p = rp at *
          generalize q - 1 = qm at *
          go_wp2_with fail
          go_round
          case rel => exact ⟨_, _, rfl, rfl, HN⟩
          case measure => have := HM.out; simp [intOf]; omega
      · have hd : decide ((q : Int) ≥ 4294967296) = false := by simp; omega
        have l1 : q * t ≤ 4294967295 * 4294967295 := Nat.mul_le_mul (by omega) (by omega)
        have e1 : IntKind.u64.wrap ((q : Int) * t) = ((q * t : Nat) : Int) := by rw [← Int.natCast_mul, IntKind.wrap_u64]; omega
        have e2 : IntKind.u64.wrap (4294967296 * (r : Int)) = ((4294967296 * r : Nat) : Int) := by rw [IntKind.wrap_u64]; omega
        have e3 : IntKind.u64.wrap (((4294967296 * r : Nat) : Int) + c1) = ((4294967296 * r + c1 : Nat) : Int) := by rw [IntKind.wrap_u64]; omega
        by_cases hg : 4294967296 * r + c1 < q * t
        · have hd2 : decide (4294967296 * r + c1 < q * t) = true := decide_eq_true hg
          obtain ⟨hl, h1⟩ := hI.out.less HKc1.out (Or.inr hg)
          have e4 : IntKind.u64.wrap ((q : Int) - 1) = ((q - 1 : Nat) : Int) := by rw [IntKind.wrap_u64]; omega
          have e5 : IntKind.u64.wrap ((r : Int) + p) = ((r + p : Nat) : Int) := by rw [IntKind.wrap_u64]; omega
          have HH := Lib.hid (Or.inr hg : 4294967296 ≤ q ∨ 4294967296 * r + c1 < q * t)
          have H1 := Lib.hid h1
          clear hl h1 hb hq hg l1
          by_cases hx : 4294967296 ≤ r + p
          · have hd5 : decide (((r + p : Nat) : Int) ≥ 4294967296) = true := by simp; omega
            have HB := Lib.hid (hI.out.brk HKc1.out HH.out hx)
            clear hx hr hp2 ht2 hc2
            generalize r + p = rp at *
            generalize q - 1 = qm at *
            generalize q * t = qt at *
            generalize 4294967296 * r + c1 = bc at *
            generalize 4294967296 * r = br at *
            go_wp2_with fail
            go_meet
            case rel => exact ⟨by rw [← HB.out, HQc1.out], rfl⟩
          · have hd5 : decide (((r + p : Nat) : Int) ≥ 4294967296) = false := by simp; omega
            have HN : Hid (KI p t u c1 (q - 1) (r + p)) := hI.out.next HKc1.out HH.out (by omega)
            have HM : Hid (q - 1 < q) := by have := H1.out; show _ < _; omega
            clear hx hr hp2 ht2 hc2
            generalize r + p = rp at *
            generalize q - 1 = qm at *
            generalize q * t = qt at *
            generalize 4294967296 * r + c1 = bc at *
            generalize 4294967296 * r = br at *
            go_wp2_with fail
            go_round
            case rel => exact ⟨_, _, rfl, rfl, HN⟩
            case measure => have := HM.out; simp [intOf]; omega
        · have hd2 : decide (4294967296 * r + c1 < q * t) = false := decide_eq_false hg
          have HB := Lib.hid (hI.out.fin HKc1.out (by omega))
          clear hr hp2 ht2 hc2 hb hq hg l1
          generalize q * t = qt at *
          generalize 4294967296 * r + c1 = bc at *
          generalize 4294967296 * r = br at *
          go_wp2_with fail
          go_meet
          case rel => exact ⟨by rw [← HB.out, HQc1.out], rfl⟩
  case rest =>
    obtain ⟨rfl, rfl⟩ := hcut
    go_upto_block 2 with fail
    go_cut [18, 16] from 102 to 120 (fun x y wx => x = .int .u64 (Q0 : Int) ∧ w1 = wx)
    case first =>
      clear b1 b2 b3 b4 b5 b6 b7
      go_wp2_with fail
      go_loop [18, 16] (fun x y => ∃ q r : Nat, x = .int .u64 (q : Int) ∧ y = .int .u64 (r : Int) ∧ Hid (KI p t u21 c0 q r)) (fun x _ => (intOf x).toNat)
      case atStart => exact ⟨_, _, rfl, rfl, HI0⟩
      case round =>
        obtain ⟨q, r, rfl, rfl, hI⟩ := hrel
        have hq := hI.out.hq
        have hr := hI.out.hr
        have hp2 := HKc0.out.hp2
        have ht2 := HKc0.out.ht
        have hc2 := HKc0.out.hc
        by_cases hb : 4294967296 ≤ q
        · have hd : decide ((q : Int) ≥ 4294967296) = true := by simp; omega
          obtain ⟨hl, h1⟩ := hI.out.less HKc0.out (Or.inl hb)
          have e4 : IntKind.u64.wrap ((q : Int) - 1) = ((q - 1 : Nat) : Int) := by rw [IntKind.wrap_u64]; omega
          have e5 : IntKind.u64.wrap ((r : Int) + p) = ((r + p : Nat) : Int) := by rw [IntKind.wrap_u64]; omega
          have HH := Lib.hid (Or.inl hb : 4294967296 ≤ q ∨ 4294967296 * r + c0 < q * t)
          have H1 := Lib.hid h1
          clear hl h1 hb hq
          by_cases hx : 4294967296 ≤ r + p
          · have hd5 : decide (((r + p : Nat) : Int) ≥ 4294967296) = true := by simp; omega
            have HB := Lib.hid (hI.out.brk HKc0.out HH.out hx)
            clear hx hr hp2 ht2 hc2
            generalize r + p = rp at *
            generalize q - 1 = qm at *
            go_wp2_with fail
            go_meet
            case rel => exact ⟨by rw [← HB.out, HQc0.out], rfl⟩
          · have hd5 : decide (((r + p : Nat) : Int) ≥ 4294967296) = false := by simp; omega
            have HN : Hid (KI p t u21 c0 (q - 1) (r + p)) := hI.out.next HKc0.out HH.out (by omega)
            have HM : Hid (q - 1 < q) := by have := H1.out; show _ < _; omega
            clear hx hr hp2 ht2 hc2
            generalize r + p = rp at *
            generalize q - 1 = qm at *
            go_wp2_with fail
            go_round
            case rel => exact ⟨_, _, rfl, rfl, HN⟩
            case measure => have := HM.out; simp [intOf]; omega
        · have hd : decide ((q : Int) ≥ 4294967296) = false := by simp; omega
          have l1 : q * t ≤ 4294967295 * 4294967295 := Nat.mul_le_mul (by omega) (by omega)
          have e1 : IntKind.u64.wrap ((q : Int) * t) = ((q * t : Nat) : Int) := by rw [← Int.natCast_mul, IntKind.wrap_u64]; omega
          have e2 : IntKind.u64.wrap (4294967296 * (r : Int)) = ((4294967296 * r : Nat) : Int) := by rw [IntKind.wrap_u64]; omega
          have e3 : IntKind.u64.wrap (((4294967296 * r : Nat) : Int) + c0) = ((4294967296 * r + c0 : Nat) : Int) := by rw [IntKind.wrap_u64]; omega
          by_cases hg : 4294967296 * r + c0 < q * t
          · have hd2 : decide (4294967296 * r + c0 < q * t) = true := decide_eq_true hg
            obtain ⟨hl, h1⟩ := hI.out.less HKc0.out (Or.inr hg)
            have e4 : IntKind.u64.wrap ((q : Int) - 1) = ((q - 1 : Nat) : Int) := by rw [IntKind.wrap_u64]; omega
            have e5 : IntKind.u64.wrap ((r : Int) + p) = ((r + p : Nat) : Int) := by rw [IntKind.wrap_u64]; omega
            have HH := Lib.hid (Or.inr hg : 4294967296 ≤ q ∨ 4294967296 * r + c0 < q * t)
            have H1 := Lib.hid h1
            clear hl h1 hb hq hg l1
            by_cases hx : 4294967296 ≤ r + p
            · have hd5 : decide (((r + p : Nat) : Int) ≥ 4294967296) = true := by simp; omega
              have HB := Lib.hid (hI.out.brk HKc0.out HH.out hx)
              clear hx hr hp2 ht2 hc2
              generalize r + p = rp at *
              generalize q - 1 = qm at *
              generalize q * t = qt at *
              generalize 4294967296 * r + c0 = bc at *
              generalize 4294967296 * r = br at *
              go_wp2_with fail
              go_meet
              case rel => exact ⟨by rw [← HB.out, HQc0.out], rfl⟩
            · have hd5 : decide (((r + p : Nat) : Int) ≥ 4294967296) = false := by simp; omega
              have HN : Hid (KI p t u21 c0 (q - 1) (r + p)) := hI.out.next HKc0.out HH.out (by omega)
              have HM : Hid (q - 1 < q) := by have := H1.out; show _ < _; omega
              clear hx hr hp2 ht2 hc2
              generalize r + p = rp at *
              generalize q - 1 = qm at *
              generalize q * t = qt at *
              generalize 4294967296 * r + c0 = bc at *
              generalize 4294967296 * r = br at *
              go_wp2_with fail
              go_round
              case rel => exact ⟨_, _, rfl, rfl, HN⟩
              case measure => have := HM.out; simp [intOf]; omega
          · have hd2 : decide (4294967296 * r + c0 < q * t) = false := decide_eq_false hg
            have HB := Lib.hid (hI.out.fin HKc0.out (by omega))
            clear hr hp2 ht2 hc2 hb hq hg l1
            generalize q * t = qt at *
            generalize 4294967296 * r + c0 = bc at *
            generalize 4294967296 * r = br at *
            go_wp2_with fail
            go_meet
            case rel => exact ⟨by rw [← HB.out, HQc0.out], rfl⟩
    case rest =>
      obtain ⟨rfl, rfl⟩ := hcut
      go_wp2_with fail
      exact bodyPost_ret (v := .tuple #[.int .u64 qq, .int .u64 rr]) (by simp [results, Try.results81, go_sem]) rfl ⟨rfl, rfl⟩

end Go.Proofs.Ytcaeaepnobbjlaa

