/- A part of the proof that the law TopThree returns true for all arguments of bulk at most 1048576 (no other condition). Here: The summaries of savings. -/
import Derived.Test.YtcbahkfbdlhabaaGreatDoorK24
namespace Go.Proofs.YtcbahkfbdlhabaaGreatDoor
set_option linter.unusedVariables false
set_option linter.unusedSimpArgs false
open Go.RowKit
attribute [local go_sem] index24_0 index24_1 field34_0 field34_1
attribute [local irreducible] wpList Code.wp wpB

/-- A summary's block. -/
abbrev SB (S H bb : Nat) (k : Int) (n sp : Nat) : En := ⟨S, .cells #[.int .i64 k, .int .u64 (n : Int), .int .u64 (sp : Int), .pointer (some ⟨H, 0, none⟩), .map (some bb)] 83 (0, 0), true⟩
theorem Hp.sift {w0 W : World} {a b x y z : En} {r l : List En} (h : Hp w0 W (a :: b :: (r ++ (x :: y :: z :: l)))) : Hp w0 W (x :: y :: z :: a :: b :: (r ++ l)) := by
  refine h.perm ?_
  have h1 : (a :: b :: (r ++ (x :: y :: z :: l))) = (a :: b :: r) ++ ([x, y, z] ++ l) := rfl
  have h2 : (x :: y :: z :: a :: b :: (r ++ l)) = [x, y, z] ++ ((a :: b :: r) ++ l) := rfl
  rw [h1, h2, ← List.append_assoc, ← List.append_assoc]
  exact List.Perm.append_right l List.perm_append_comm
theorem Hp.sift4 {w0 W : World} {a b c d x : En} {r l : List En} (h : Hp w0 W (a :: b :: c :: d :: (r ++ (x :: l)))) : Hp w0 W (x :: a :: b :: c :: d :: (r ++ l)) := by
  refine h.perm ?_
  have h1 : (a :: b :: c :: d :: (r ++ (x :: l))) = (a :: b :: c :: d :: r) ++ (x :: l) := rfl
  rw [h1]
  exact List.perm_middle
theorem Hp.sift5 {w0 W : World} {a b c x y : En} {r l : List En} (h : Hp w0 W (a :: b :: c :: x :: y :: (r ++ l))) : Hp w0 W (x :: y :: ((a :: b :: c :: l) ++ r)) := by
  refine h.perm ?_
  have h1 : (a :: b :: c :: x :: y :: (r ++ l)) = [a, b, c] ++ ([x, y] ++ (r ++ l)) := rfl
  have h2 : (x :: y :: ((a :: b :: c :: l) ++ r)) = [x, y] ++ ([a, b, c] ++ (l ++ r)) := rfl
  rw [h1, h2]
  exact (List.perm_append_comm_assoc _ _ _).trans (List.Perm.append_left _ (List.Perm.append_left _ List.perm_append_comm))

set_option maxRecDepth 100000 in
set_option maxHeartbeats 4000000 in
theorem snew_walk {w0 w : World} {l : List En} (HH : Hp w0 w l) (k : Int) (h1 : 1 ≤ k) (h2 : k ≤ 200) : Calls Tryz.prog 13 #[.int .i64 k] w fun e w' => ∃ (S H bm bb : Nat), e = .returned (.pointer (some ⟨S, 0, none⟩)) ∧ Hp w0 w' (SB S H bb k 0 0 :: ⟨bb, mp encU [] 0, true⟩ :: HB H bm (.slice none 0 0) :: ⟨bm, mp encI [] 0, true⟩ :: l) := by
  have d1 : decide (k < 1) = false := decide_eq_false (by omega)
  have d2 : decide (k > 200) = false := decide_eq_false (by omega)
  go_enter Tryz.func13, Tryz.ntmps13
  go_wp2_with (first | (go_at_call 25; (with_reducible refine (hnew_walk HH).mono ?_); rintro e9 V ⟨H, bm, rfl, HH2⟩; clear HH; have HH := HH2; clear HH2; (try simp only [Act.put, zz])) | ((with_reducible show zW (Op.makeMap 81 _)); refine wpl_mkmap (enc := encU) HH rfl rfl ?_; clear HH; intro bb V HH; (try simp only [Act.put, zz])) | ((with_reducible show zX (Op.binOp _ _ _ _ _)); (refine wpl_cmp (p := ?_) rfl rfl rfl ?_ ?_ ?_; rotate_left; (focus (go_simp; with_reducible rfl)); all_goals (intro hq; (try (contradiction)); (try simp only [zw] at hq); (try simp only [Act.put, zz])))) | ((with_reducible show zY (Op.binOp _ _ _ _ _)); (refine wpl_cmp (p := ?_) rfl rfl (by simp only [Region.wanted, yielded, zy, Option.bind_some]; decide) ?_ ?_ ?_; rotate_left; (focus (go_simp; with_reducible rfl)); all_goals (intro hq; (try (contradiction)); (try simp only [zw] at hq); (try simp only [Act.put, zz])))) | ((with_reducible show zW (Op.box _ _)); refine wpl_box HH rfl rfl rfl ?_; clear HH; intro b V HH; simp only [Act.eval, zx, Value.cells, putl, zC, zB] at HH; (try simp only [Act.put, zz])))
  go_ret
  exact ⟨_, _, _, _, rfl, HH⟩

set_option maxRecDepth 100000 in
set_option maxHeartbeats 4000000 in
theorem smade (w : World) {S H bb : Nat} {k : Int} {n sp : Nat} (hS : w.heap[S]? = some (.cells #[.int .i64 k, .int .u64 (n : Int), .int .u64 (sp : Int), .pointer (some ⟨H, 0, none⟩), .map (some bb)] 83 (0, 0))) : Calls Tryz.prog 205 #[.pointer (some ⟨S, 0, none⟩)] w fun e w' => e = .returned (.bool true) ∧ Below w.heap.size w w' := by
  have HH : Hp w w [⟨S, .cells #[.int .i64 k, .int .u64 (n : Int), .int .u64 (sp : Int), .pointer (some ⟨H, 0, none⟩), .map (some bb)] 83 (0, 0), false⟩] := Hp.start ⟨hS, trivial⟩ (by simp) rfl
  have hGL := Lib.hid hS
  clear hS
  go_enter Tryz.func205, Tryz.ntmps205
  go_wp2_with (first | ((with_reducible show zX (Op.binOp _ _ _ _ _)); (refine wpl_cmp (p := ?_) rfl rfl rfl ?_ ?_ ?_; rotate_left; (focus (go_simp; with_reducible rfl)); all_goals (intro hq; (try (contradiction)); (try simp only [zw] at hq); (try simp only [Act.put, zz])))) | ((with_reducible show zY (Op.load _ _)); (refine wpl_load HH 0 rfl rfl rfl (by simp only [Region.wanted, yielded, zy, Option.bind_some]; decide) rfl ?_; (try simp only [Act.put, zz]))) | ((with_reducible show zY (Op.binOp _ _ _ _ _)); (refine wpl_cmp (p := ?_) rfl rfl (by simp only [Region.wanted, yielded, zy, Option.bind_some]; decide) ?_ ?_ ?_; rotate_left; (focus (go_simp; with_reducible rfl)); all_goals (intro hq; (try (contradiction)); (try simp only [zw] at hq); (try simp only [Act.put, zz])))))
  go_ret
  exact ⟨rfl, Hp.back (l := []) (r := [_]) HH (by intro e he; simp only [List.mem_singleton] at he; subst he; exact hGL.out) rfl⟩

/-- What an eviction leaves. -/
def EvR (w0 : World) (S H bb bm : Nat) (k : Int) (n sp : Nat) (hs : List It) (mb : List (Me Nat)) (cb : Nat) (l : List En) (w' : World) : Prop := ∃ (x : It) (hs' : List It) (mm' : List (Me Int)) (c' : Nat) (v' : Value) (r' : List En), (hs' ++ [x]).Perm hs ∧ HI hs' mm' c' ∧ SlR 250 13 true v' hs'.length (hrow hs') r' ∧ Hp w0 w' (SB S H bb k n (max sp x.w) :: ⟨bb, mp encU (mdel mb x.p) cb, true⟩ :: HB H bm v' :: ⟨bm, mp encI mm' c', true⟩ :: (r' ++ l))

set_option maxRecDepth 100000 in
set_option maxHeartbeats 4000000 in
theorem sevict_walk {w0 w : World} {l : List En} {S H bb bm c cb g cap n9 : Nat} {k : Int} {n sp : Nat} {hs : List It} {mm : List (Me Int)} {mb : List (Me Nat)} {js : List Value} (HH : Hp w0 w (SB S H bb k n sp :: ⟨bb, mp encU mb cb, true⟩ :: HB H bm (.slice (some ⟨g, 0, none⟩) n9 cap) :: ⟨bm, mp encI mm c, true⟩ :: RW g hs js :: l)) (hi : 0 < hs.length) (hn : n9 = hs.length) (hlen : hs.length ≤ 1000000) (hx1 : (cap - n9) * 13 ≤ js.length) (hx2 : n9 ≤ cap) (hx3 : cap ≤ maxLen) (hI : HI hs mm c) : Calls Tryz.prog 209 #[.pointer (some ⟨S, 0, none⟩)] w fun e w' => e = .returned (.tuple #[]) ∧ EvR w0 S H bb bm k n sp hs mb cb l w' := by
  have HIN := Lib.hid hI
  clear hI
  go_enter Tryz.func209, Tryz.ntmps209
  go_wp2_with (first | (go_at_call 213; have H9 := (((HH.front 4 rfl).front 4 rfl).front 4 rfl); simp only [List.eraseIdx] at H9; (with_reducible refine (hleast_walk H9 hi hn).mono ?_); clear H9; rintro e9 V ⟨rfl, HH2⟩; clear HH; have HH := HH2; clear HH2; (try simp only [Act.put, zz])) | (go_at_call 214; have H9 := (((HH.front 3 rfl).front 3 rfl).front 3 rfl); simp only [List.eraseIdx] at H9; (with_reducible refine (hdrop_walk H9 hs[0].p 0 hi rfl hn hlen hx1 hx2 hx3 HIN.out).mono ?_); clear H9; rintro e9 V ⟨rfl, A, hpa, hs2, mm2, c2, v2, r2, hpm2, hI2, HS2, HH2⟩; clear HH; obtain ⟨a8, c8, rfl⟩ := HS2.form; have HH := HH2.sift; clear HH2; have HI2 := Lib.hid hI2; clear hI2; have HPA := Lib.hid hpa; have HPM2 := Lib.hid hpm2; clear hpa hpm2; (try simp only [Act.put, zz])) | ((with_reducible show zW (Op.call _)); (refine wpl_del (T := 81) (enc := encU) HH 2 hs[0].p rfl rfl rfl rfl rfl ?_); clear HH; intro V HH; (try simp only [zC, zB] at HH); (try simp only [Act.put, zz])) | ((with_reducible show zX (Op.load _ _)); (first | (refine wpl_load HH 0 rfl rfl rfl rfl rfl ?_; (try simp only [Act.put, zz])) | (refine wpl_load HH 1 rfl rfl rfl rfl rfl ?_; (try simp only [Act.put, zz])))) | ((with_reducible show zW (Op.store _ _ _)); (first | (refine wpl_store HH 0 rfl rfl rfl rfl rfl rfl rfl rfl ?_; clear HH; intro V HH; simp only [Act.eval, zx, Value.cells, putl, zC, zB] at HH; (try simp only [Act.put, zz])) | (refine wpl_store HH 1 rfl rfl rfl rfl rfl rfl rfl rfl ?_; clear HH; intro V HH; simp only [Act.eval, zx, Value.cells, putl, zC, zB] at HH; (try simp only [Act.put, zz])))) | ((with_reducible show zW (Op.alloc _)); refine wpl_alloc HH rfl rfl ?_; clear HH; intro b V HH; simp only [Act.eval, zx, Value.cells, putl, zC, zB] at HH; (try simp only [Act.put, zz])) | ((with_reducible show Code.wp _ (Code.region _ _ true) _ _ _); (first | (refine wp_tail_Hp (id := 2) [0, 1, 2, 3, 4] [5] (by kernel_rfl) HH ?_; clear HH; (try simp only [pick, zy]); repeat' (first | ((with_reducible show wpB _ _ _ _ [] _); refine wpB_nil ?_; intro V HH) | (((with_reducible show zU _); (first | ((with_reducible show zT (Op.move _)); refine wpB_move rfl rfl rfl ?_) | ((with_reducible show zT (Op.load _ _)); (first | refine wpB_load 0 rfl rfl rfl rfl rfl ?_ | refine wpB_load 4 rfl rfl rfl rfl rfl ?_)) | (refine wpB_val (v := ?_) rfl ?_ ?_; rotate_left; (focus (intro w9 hS9; go_simp; all_goals (with_reducible rfl)))))); all_goals (try simp only [Act.put, zz, Act.eval, zx])))) | (refine wp_tail_Hp (id := 3) [0, 1, 2, 3, 4] [5] (by kernel_rfl) HH ?_; clear HH; (try simp only [pick, zy]); repeat' (first | ((with_reducible show wpB _ _ _ _ [] _); refine wpB_nil ?_; intro V HH) | (((with_reducible show zU _); (first | ((with_reducible show zT (Op.move _)); refine wpB_move rfl rfl rfl ?_) | ((with_reducible show zT (Op.load _ _)); (first | refine wpB_load 0 rfl rfl rfl rfl rfl ?_ | refine wpB_load 1 rfl rfl rfl rfl rfl ?_)) | (refine wpB_val (v := ?_) rfl ?_ ?_; rotate_left; (focus (intro w9 hS9; go_simp; all_goals (with_reducible rfl)))))); all_goals (try simp only [Act.put, zz, Act.eval, zx])))))))
  go_end0
  rw [show max (sp : Int) (hs[0].w : Int) = ((max sp hs[0].w : Nat) : Int) by omega] at HH
  exact ⟨rfl, hs[0], hs2, mm2, c2, _, r2, (List.Perm.append_right _ HPM2.out).trans HPA.out, HI2.out, HS2, HH.drop rfl⟩

/-- A prefix' base. -/
def bOf (mb : List (Me Nat)) (p : Px) : Nat := (mget mb p).getD 0
/-- What holds of a summary: F is what went in for each prefix. -/
structure SmP (k : Int) (n sp : Nat) (hs : List It) (mb : List (Me Nat)) (F : Px → Nat) : Prop where
  len : (hs.length : Int) ≤ k
  nb : n ≤ 4611686018427387904
  sb : sp ≤ n
  it : ∀ x ∈ hs, x.w ≤ n ∧ bOf mb x.p ≤ x.w ∧ x.w - bOf mb x.p ≤ F x.p ∧ F x.p ≤ x.w
  out : ∀ p, (∀ x ∈ hs, x.p ≠ p) → F p ≤ sp
theorem SmP.start {k : Int} (hk : 1 ≤ k) : SmP k 0 0 [] [] (fun _ => 0) := ⟨by simp; omega, by omega, by omega, by simp, by simp⟩
/-- One more of a prefix. -/
def fAdd (F : Px → Nat) (q : Px) (wv : Nat) (p : Px) : Nat := F p + if p = q then wv else 0
theorem SmP.raise {k : Int} {n sp : Nat} {hs hs' : List It} {mb : List (Me Nat)} {F : Px → Nat} (h : SmP k n sp hs mb F) {i : Nat} (hi : i < hs.length) (hnd : ∀ (j : Nat) (hj : j < hs.length), hs[j].p = hs[i].p → j = i) (wv : Nat) (hn : n + wv ≤ 4611686018427387904) (hp : hs'.Perm (hs.set i ⟨hs[i].p, hs[i].w + wv⟩)) : SmP k (n + wv) sp hs' mb (fAdd F hs[i].p wv) := by
  have hm := h.it _ (List.getElem_mem hi)
  have hsp := h.sb
  refine ⟨by rw [hp.length_eq, List.length_set]; exact h.len, hn, by omega, fun x hx => ?_, fun p hpn => ?_⟩
  · obtain ⟨j, hj, rfl⟩ := List.getElem_of_mem (hp.subset hx)
    rw [List.length_set] at hj
    unfold fAdd
    by_cases e : j = i
    · subst e
      rw [List.getElem_set_self]
      simp only [if_pos]
      omega
    · rw [List.getElem_set_ne (by omega)]
      have h1 := h.it _ (List.getElem_mem hj)
      rw [if_neg (fun e2 => e (hnd j hj e2))]
      omega
  · unfold fAdd
    have h1 : ∀ x ∈ hs, x.p ≠ p := fun x hx e => by
      obtain ⟨j, hj, rfl⟩ := List.getElem_of_mem hx
      by_cases e2 : j = i
      · subst e2
        exact hpn _ (hp.symm.subset (List.mem_iff_getElem.2 ⟨j, by simpa using hj, List.getElem_set_self ..⟩)) e
      · exact hpn _ (hp.symm.subset (List.mem_iff_getElem.2 ⟨j, by simpa using hj, List.getElem_set_ne (by omega) ..⟩)) e
    rw [if_neg (fun e => h1 _ (List.getElem_mem hi) e.symm)]
    exact h.out p h1
theorem SmP.evict {k : Int} {n sp : Nat} {hs hs' : List It} {x : It} {mb : List (Me Nat)} {c : Nat} {F : Px → Nat} (hmb : MOk mb c) (h : SmP k n sp hs mb F) (hnd : (hs.map It.p).Nodup) (hp : (hs' ++ [x]).Perm hs) : SmP (k - 1) n (max sp x.w) hs' (mdel mb x.p) F := by
  have hx := h.it x (hp.subset (by simp))
  have hl := hp.length_eq
  rw [List.length_append, List.length_singleton] at hl
  have hlen := h.len
  have hsp := h.sb
  have hnd2 := (hp.map It.p).nodup_iff.2 hnd
  rw [List.map_append, List.nodup_append] at hnd2
  refine ⟨by omega, h.nb, by omega, fun y hy => ?_, fun p hpn => ?_⟩
  · have h1 := h.it y (hp.subset (by simp [hy]))
    have h2 : y.p ≠ x.p := hnd2.2.2 _ (List.mem_map_of_mem hy) _ (by simp)
    have h3 : bOf (mdel mb x.p) y.p = bOf mb y.p := by
      unfold bOf
      rw [mget_del hmb, if_neg h2]
    rw [h3]
    exact h1
  · by_cases e : x.p = p
    · subst e
      omega
    · have := h.out p fun y hy => by
        rcases List.mem_append.1 (hp.symm.subset hy) with hy | hy
        · exact hpn y hy
        · simp only [List.mem_singleton] at hy
          subst hy
          exact e
      omega
theorem SmP.add {k : Int} {n sp : Nat} {hs hs' : List It} {mb : List (Me Nat)} {c : Nat} {F : Px → Nat} (h : SmP (k - 1) n sp hs mb F) (q : Px) (hq : ∀ x ∈ hs, x.p ≠ q) (wv : Nat) (hn : n + wv ≤ 4611686018427387904) (hp : hs'.Perm (hs ++ [⟨q, sp + wv⟩])) : SmP k (n + wv) sp hs' (mputL mb c q sp) (fAdd F q wv) := by
  have hl := hp.length_eq
  rw [List.length_append, List.length_singleton] at hl
  have hlen := h.len
  have hsp := h.sb
  have hF := h.out q hq
  refine ⟨by omega, hn, by omega, fun x hx => ?_, fun p hpn => ?_⟩
  · unfold bOf fAdd
    rw [mget_put]
    rcases List.mem_append.1 (hp.subset hx) with hy | hy
    · have h1 := h.it x hy
      unfold bOf at h1
      rw [if_neg (hq x hy), if_neg (hq x hy)]
      omega
    · simp only [List.mem_singleton] at hy
      subst hy
      simp only [if_true, zL]
      omega
  · unfold fAdd
    rw [if_neg (fun e => hpn ⟨q, sp + wv⟩ (hp.symm.subset (by simp)) e.symm)]
    exact h.out p fun x hx => hpn x (hp.symm.subset (by simp [hx]))
/-- A summary as blocks: all of them, with what holds. -/
def SmR (w0 : World) (k : Int) (n : Nat) (F : Px → Nat) (S : Nat) (l : List En) (w' : World) : Prop := ∃ (H bb bm sp c cb : Nat) (hs : List It) (mm : List (Me Int)) (mb : List (Me Nat)) (v : Value) (r : List En), SmP k n sp hs mb F ∧ HI hs mm c ∧ MOk mb cb ∧ SlR 250 13 true v hs.length (hrow hs) r ∧ Hp w0 w' (SB S H bb k n sp :: ⟨bb, mp encU mb cb, true⟩ :: HB H bm v :: ⟨bm, mp encI mm c, true⟩ :: (r ++ l))

set_option maxRecDepth 100000 in
set_option maxHeartbeats 4000000 in
theorem sins_zero {w0 w : World} {l : List En} {S H bb bm c cb : Nat} {k : Int} {n sp : Nat} {hs : List It} {mm : List (Me Int)} {mb : List (Me Nat)} {F : Px → Nat} {v : Value} {r : List En} (HH : Hp w0 w (SB S H bb k n sp :: ⟨bb, mp encU mb cb, true⟩ :: HB H bm v :: ⟨bm, mp encI mm c, true⟩ :: (r ++ l))) (hP : SmP k n sp hs mb F) (hI : HI hs mm c) (hmb : MOk mb cb) (HS : SlR 250 13 true v hs.length (hrow hs) r) (q : Px) : Calls Tryz.prog 203 #[.pointer (some ⟨S, 0, none⟩), q.v, .int .u64 (0 : Int)] w fun e w' => e = .returned (.int .i64 0) ∧ SmR w0 k (n + 0) (fAdd F q 0) S l w' := by
  have hnb := hP.nb
  have HP := Lib.hid hP
  clear hP
  have w1 : IntKind.u64.wrap (4611686018427387904 - (n : Int)) = 4611686018427387904 - (n : Int) := IntWalk.u64_in _ (by omega)
  have ht : decide ((0 : Int) > 4611686018427387904 - (n : Int)) = false := decide_eq_false (by omega)
  have hF : fAdd F q 0 = F := by
    funext p
    unfold fAdd
    split <;> rfl
  rw [hF, Nat.add_zero]
  go_enter Tryz.func203, Tryz.ntmps203
  go_wp2_with (first | (go_at_call 205; (refine (smade _ (HH.get 1 rfl)).mono ?_); rintro e V ⟨rfl, hb⟩; replace HH := HH.next hb; clear hb; (try simp only [Act.put, zz])) | ((with_reducible show zX (Op.load _ _)); (refine wpl_load HH 1 rfl rfl rfl rfl rfl ?_; (try simp only [Act.put, zz]))) | ((with_reducible show zX (Op.binOp _ _ _ _ _)); (refine wpl_cmp (p := ?_) rfl rfl rfl ?_ ?_ ?_; rotate_left; (focus (go_simp; with_reducible rfl)); all_goals (intro hq; (try (contradiction)); (try simp only [zw] at hq); (try simp only [Act.put, zz])))) | ((with_reducible show zW (Op.box _ _)); refine wpl_box HH rfl rfl rfl ?_; clear HH; intro b V HH; simp only [Act.eval, zx, Value.cells, putl, zC, zB] at HH; (try simp only [Act.put, zz])))
  go_ret
  exact ⟨rfl, H, bb, bm, sp, c, cb, hs, mm, mb, v, r, HP.out, hI, hmb, HS, HH.drop rfl⟩

set_option maxRecDepth 100000 in
set_option maxHeartbeats 4000000 in
theorem sins_yes {w0 w : World} {l : List En} {S H bb bm c cb : Nat} {k : Int} {n sp : Nat} {hs : List It} {mm : List (Me Int)} {mb : List (Me Nat)} {F : Px → Nat} {g cap : Nat} {js : List Value} (HH : Hp w0 w (SB S H bb k n sp :: ⟨bb, mp encU mb cb, true⟩ :: HB H bm (.slice (some ⟨g, 0, none⟩) hs.length cap) :: ⟨bm, mp encI mm c, true⟩ :: RW g hs js :: l)) (hP : SmP k n sp hs mb F) (hI : HI hs mm c) (hmb : MOk mb cb) (hx1 : (cap - hs.length) * 13 ≤ js.length) (hx2 : hs.length ≤ cap) (hx3 : cap ≤ maxLen) (hk : k ≤ 200) (i : Nat) (hi : i < hs.length) (wv : Nat) (hw : 0 < wv) (hn : n + wv ≤ 4611686018427387904) : Calls Tryz.prog 203 #[.pointer (some ⟨S, 0, none⟩), hs[i].p.v, .int .u64 (wv : Int)] w fun e w' => e = .returned (.int .i64 0) ∧ SmR w0 k (n + wv) (fAdd F hs[i].p wv) S l w' := by
  have hnb := hP.nb
  have hlen : hs.length ≤ 1000000 := by have := hP.len; omega
  have hww : hs[i].w + wv ≤ 9223372036854775807 := by have := (hP.it _ (List.getElem_mem hi)).1; omega
  have hgq := hI.2.1 i hi
  have hinj : ∀ (j : Nat) (hj : j < hs.length), hs[j].p = hs[i].p → j = i := fun j hj e => hI.inj hj hi e
  have HP := Lib.hid hP
  have HIN := Lib.hid hI
  have HINJ := Lib.hid hinj
  clear hP hI hinj
  have hz : ((wv : Int) == 0) = false := by simp; omega
  have w1 : IntKind.u64.wrap (4611686018427387904 - (n : Int)) = 4611686018427387904 - (n : Int) := IntWalk.u64_in _ (by omega)
  have w2 : IntKind.u64.wrap ((n : Int) + (wv : Int)) = ((n + wv : Nat) : Int) := by rw [IntWalk.u64_in _ (by omega)]; push_cast; rfl
  have ht : decide ((wv : Int) > 4611686018427387904 - (n : Int)) = false := decide_eq_false (by omega)
  go_enter Tryz.func203, Tryz.ntmps203
  go_wp2_with (first | (go_at_call 205; (refine (smade _ (HH.get 1 rfl)).mono ?_); rintro e V ⟨rfl, hb⟩; replace HH := HH.next hb; clear hb; (try simp only [Act.put, zz])) | (go_at_call 207; have H9 := (((HH.front 5 rfl).front 5 rfl).front 5 rfl); simp only [List.eraseIdx] at H9; (with_reducible refine (hraise_yes H9 hs[i].p wv i hi hgq rfl hlen hx1 hx2 hx3 HIN.out hww).mono ?_); clear H9; rintro e9 V ⟨rfl, hs2, mm2, c2, v2, r2, hpm2, hI2, HS2, HH2⟩; clear HH; obtain ⟨a8, c8, rfl⟩ := HS2.form; have HH := HH2.sift; clear HH2; have HI2 := Lib.hid hI2; clear hI2; have HPM2 := Lib.hid hpm2; clear hpm2; (try simp only [Act.put, zz])) | ((with_reducible show zX (Op.load _ _)); (refine wpl_load HH 1 rfl rfl rfl rfl rfl ?_; (try simp only [Act.put, zz]))) | ((with_reducible show zX (Op.binOp _ _ _ _ _)); (refine wpl_cmp (p := ?_) rfl rfl rfl ?_ ?_ ?_; rotate_left; (focus (go_simp; with_reducible rfl)); all_goals (intro hq; (try (contradiction)); (try simp only [zw] at hq); (try simp only [Act.put, zz])))) | ((with_reducible show zW (Op.store _ _ _)); (refine wpl_store HH 1 rfl rfl rfl rfl rfl rfl rfl rfl ?_; clear HH; intro V HH; simp only [Act.eval, zx, Value.cells, putl, zC, zB] at HH; (try simp only [Act.put, zz]))) | ((with_reducible show zW (Op.box _ _)); refine wpl_box HH rfl rfl rfl ?_; clear HH; intro b V HH; simp only [Act.eval, zx, Value.cells, putl, zC, zB] at HH; (try simp only [Act.put, zz])) | ((with_reducible show Code.wp _ (Code.region _ _ true) _ _ _); (refine wp_tail_Hp (id := 8) [0, 1, 2, 3, 4, 5] [6, 7] (by kernel_rfl) HH ?_; clear HH; (try simp only [pick, zy]); repeat' (first | ((with_reducible show wpB _ _ _ _ [] _); refine wpB_nil ?_; intro V HH) | (((with_reducible show zU _); (first | ((with_reducible show zT (Op.move _)); refine wpB_move rfl rfl rfl ?_) | ((with_reducible show zT (Op.load _ _)); (first | refine wpB_load 0 rfl rfl rfl rfl rfl ?_ | refine wpB_load 1 rfl rfl rfl rfl rfl ?_)) | (refine wpB_val (v := ?_) rfl ?_ ?_; rotate_left; (focus (intro w9 hS9; go_simp; all_goals (with_reducible rfl)))))); all_goals (try simp only [Act.put, zz, Act.eval, zx]))))))
  go_ret
  exact ⟨rfl, H, bb, bm, sp, c2, cb, hs2, mm2, mb, _, r2, HP.out.raise hi HINJ.out wv hn HPM2.out, HI2.out, hmb, HS2, HH.drop rfl⟩

theorem HI.out_of {hs : List It} {mm : List (Me Int)} {c : Nat} (h : HI hs mm c) {q : Px} (hq : mget mm q = none) : ∀ x ∈ hs, x.p ≠ q := fun x hx e => by
  obtain ⟨i, hi, rfl⟩ := List.getElem_of_mem hx
  have := h.2.1 i hi
  rw [e, hq] at this
  cases this

set_option maxRecDepth 100000 in
set_option maxHeartbeats 4000000 in
theorem sins_room {w0 w : World} {l : List En} {S H bb bm c cb : Nat} {k : Int} {n sp : Nat} {hs : List It} {mm : List (Me Int)} {mb : List (Me Nat)} {F : Px → Nat} {v : Value} {r : List En} (HH : Hp w0 w (SB S H bb k n sp :: ⟨bb, mp encU mb cb, true⟩ :: HB H bm v :: ⟨bm, mp encI mm c, true⟩ :: (r ++ l))) (hP : SmP k n sp hs mb F) (hI : HI hs mm c) (hmb : MOk mb cb) (HS : SlR 250 13 true v hs.length (hrow hs) r) (hk : k ≤ 200) (hroom : (hs.length : Int) < k) (q : Px) (hgq : mget mm q = none) (wv : Nat) (hw : 0 < wv) (hn : n + wv ≤ 4611686018427387904) : Calls Tryz.prog 203 #[.pointer (some ⟨S, 0, none⟩), q.v, .int .u64 (wv : Int)] w fun e w' => e = .returned (.int .i64 0) ∧ SmR w0 k (n + wv) (fAdd F q wv) S l w' := by
  obtain ⟨a8, c8, rfl⟩ := HS.form
  have hnb := hP.nb
  have hsb := hP.sb
  have hlen : hs.length ≤ 900000 := by omega
  have hout := hI.out_of hgq
  have hP2 : SmP (k - 1) n sp hs mb F := ⟨by omega, hP.nb, hP.sb, hP.it, hP.out⟩
  have HP := Lib.hid hP2
  have HIN := Lib.hid hI
  have HOUT := Lib.hid hout
  clear hP hI hP2 hout
  have hz : ((wv : Int) == 0) = false := by simp; omega
  have hfull : decide ((hs.length : Int) ≥ k) = false := decide_eq_false (by omega)
  obtain ⟨u, hu⟩ : ∃ u, sp + wv = u := ⟨_, rfl⟩
  have w3 : IntKind.u64.wrap ((sp : Int) + (wv : Int)) = (u : Int) := by rw [IntWalk.u64_in _ (by omega)]; omega
  have w1 : IntKind.u64.wrap (4611686018427387904 - (n : Int)) = 4611686018427387904 - (n : Int) := IntWalk.u64_in _ (by omega)
  have w2 : IntKind.u64.wrap ((n : Int) + (wv : Int)) = ((n + wv : Nat) : Int) := by rw [IntWalk.u64_in _ (by omega)]; push_cast; rfl
  have ht : decide ((wv : Int) > 4611686018427387904 - (n : Int)) = false := decide_eq_false (by omega)
  go_enter Tryz.func203, Tryz.ntmps203
  go_wp2_with (first | (go_at_call 205; (refine (smade _ (HH.get 1 rfl)).mono ?_); rintro e V ⟨rfl, hb⟩; replace HH := HH.next hb; clear hb; (try simp only [Act.put, zz])) | (go_at_call 207; have H9 := ((HH.front 4 rfl).front 4 rfl); simp only [List.eraseIdx] at H9; (with_reducible refine (hraise_no H9 q wv hgq).mono ?_); clear H9; rintro e9 V ⟨rfl, HH2⟩; clear HH; have HH := (((HH2.front 4 rfl).front 4 rfl).front 4 rfl); clear HH2; simp only [List.eraseIdx] at HH; (try simp only [Act.put, zz])) | ((with_reducible show zW (Op.mapUpdate 81 _ _ _)); refine wpl_put (enc := encU) HH 2 q sp rfl rfl rfl rfl rfl rfl ?_; clear HH; intro V HH; (try simp only [zC, zB] at HH); (try simp only [Act.put, zz])) | (go_at_call 210; have H9 := HH.sift5; (with_reducible refine (hadd_walk H9 HS q u hgq hlen HIN.out).mono ?_); clear H9; rintro e9 V ⟨rfl, hs2, mm2, c2, v2, r2, hpm2, hI2, HS2, HH2⟩; clear HH; obtain ⟨a7, c7, rfl⟩ := HS2.form; have HH := HH2.sift; clear HH2; have HI2 := Lib.hid hI2; clear hI2; have HPM2 := Lib.hid hpm2; clear hpm2; (try simp only [Act.put, zz])) | ((with_reducible show zX (Op.load _ _)); (refine wpl_load HH 1 rfl rfl rfl rfl rfl ?_; (try simp only [Act.put, zz]))) | ((with_reducible show zX (Op.binOp _ _ _ _ _)); (refine wpl_cmp (p := ?_) rfl rfl rfl ?_ ?_ ?_; rotate_left; (focus (go_simp; with_reducible rfl)); all_goals (intro hq; (try (contradiction)); (try simp only [zw] at hq); (try simp only [Act.put, zz])))) | ((with_reducible show zW (Op.store _ _ _)); (refine wpl_store HH 1 rfl rfl rfl rfl rfl rfl rfl rfl ?_; clear HH; intro V HH; simp only [Act.eval, zx, Value.cells, putl, zC, zB] at HH; (try simp only [Act.put, zz]))) | ((with_reducible show zW (Op.box _ _)); refine wpl_box HH rfl rfl rfl ?_; clear HH; intro b V HH; simp only [Act.eval, zx, Value.cells, putl, zC, zB] at HH; (try simp only [Act.put, zz])) | ((with_reducible show Code.wp _ (Code.region _ _ true) _ _ _); (first | (refine wp_tail_Hp (id := 8) [0, 1, 2, 3, 4, 5] [6, 7] (by kernel_rfl) HH ?_; clear HH; (try simp only [pick, zy]); repeat' (first | ((with_reducible show wpB _ _ _ _ [] _); refine wpB_nil ?_; intro V HH) | (((with_reducible show zU _); (first | ((with_reducible show zT (Op.move _)); refine wpB_move rfl rfl rfl ?_) | ((with_reducible show zT (Op.load _ _)); (first | refine wpB_load 0 rfl rfl rfl rfl rfl ?_ | refine wpB_load 1 rfl rfl rfl rfl rfl ?_)) | (refine wpB_val (v := ?_) rfl ?_ ?_; rotate_left; (focus (intro w9 hS9; go_simp; all_goals (with_reducible rfl)))))); all_goals (try simp only [Act.put, zz, Act.eval, zx])))) | (refine wp_tail_Hp (id := 10) [0, 1, 2, 3, 4, 5, 6, 7, 8, 9] [] (by kernel_rfl) HH ?_; clear HH; (try simp only [pick, zy]); repeat' (first | ((with_reducible show wpB _ _ _ _ [] _); refine wpB_nil ?_; intro V HH) | (((with_reducible show zU _); (first | ((with_reducible show zT (Op.move _)); refine wpB_move rfl rfl rfl ?_) | ((with_reducible show zU (Op.call _)); refine wpB_callH (f := 208) (args := #[.pointer (some ⟨H, 0, none⟩)]) (v := .int .i64 (hs.length : Int)) rfl (fun V hV => hlen_walk V (Hp.get hV 3 rfl)) (fun w9 hS9 => ?_) ?_; (focus (go_simp; all_goals (fail)))) | ((with_reducible show zT (Op.load _ _)); (refine wpB_load 1 rfl rfl rfl rfl rfl ?_)) | ((with_reducible show zT (Op.binOp _ _ _ _ _)); (refine wpB_bool (p := ?_) rfl ?_ ?_ ?_; rotate_left; (focus (intro w9 hS9; go_simp; with_reducible rfl)); all_goals (intro hq; (try (contradiction))))) | (refine wpB_val (v := ?_) rfl ?_ ?_; rotate_left; (focus (intro w9 hS9; go_simp; all_goals (with_reducible rfl)))))); all_goals (try simp only [Act.put, zz, Act.eval, zx])))) | (refine wp_tail_Hp (id := 12) [0, 1, 2, 3, 4, 5, 6, 7, 8] [9] (by kernel_rfl) HH ?_; clear HH; (try simp only [pick, zy]); repeat' (first | ((with_reducible show wpB _ _ _ _ [] _); refine wpB_nil ?_; intro V HH) | (((with_reducible show zU _); (first | ((with_reducible show zT (Op.move _)); refine wpB_move rfl rfl rfl ?_) | ((with_reducible show zT (Op.load _ _)); (first | refine wpB_load 0 rfl rfl rfl rfl rfl ?_ | refine wpB_load 1 rfl rfl rfl rfl rfl ?_)) | (refine wpB_val (v := ?_) rfl ?_ ?_; rotate_left; (focus (intro w9 hS9; go_simp; all_goals (with_reducible rfl)))))); all_goals (try simp only [Act.put, zz, Act.eval, zx])))) | (refine wp_tail_Hp (id := 13) [0, 1, 2, 3, 4, 5, 6, 7, 8, 9, 10] [11, 12] (by kernel_rfl) HH ?_; clear HH; (try simp only [pick, zy]); repeat' (first | ((with_reducible show wpB _ _ _ _ [] _); refine wpB_nil ?_; intro V HH) | (((with_reducible show zU _); (first | ((with_reducible show zT (Op.move _)); refine wpB_move rfl rfl rfl ?_) | ((with_reducible show zT (Op.load _ _)); (first | refine wpB_load 0 rfl rfl rfl rfl rfl ?_ | refine wpB_load 1 rfl rfl rfl rfl rfl ?_)) | (refine wpB_val (v := ?_) rfl ?_ ?_; rotate_left; (focus (intro w9 hS9; go_simp; all_goals (with_reducible rfl)))))); all_goals (try simp only [Act.put, zz, Act.eval, zx])))))))
  go_ret
  subst hu
  exact ⟨rfl, H, bb, bm, sp, c2, _, hs2, mm2, _, _, r2, HP.out.add (c := cb) q HOUT.out wv hn HPM2.out, HI2.out, hmb.put q sp, HS2, HH.drop rfl⟩

set_option maxRecDepth 100000 in
set_option maxHeartbeats 4000000 in
theorem sins_full {w0 w : World} {l : List En} {S H bb bm c cb : Nat} {k : Int} {n sp : Nat} {hs : List It} {mm : List (Me Int)} {mb : List (Me Nat)} {F : Px → Nat} {g cap : Nat} {js : List Value} (HH : Hp w0 w (SB S H bb k n sp :: ⟨bb, mp encU mb cb, true⟩ :: HB H bm (.slice (some ⟨g, 0, none⟩) hs.length cap) :: ⟨bm, mp encI mm c, true⟩ :: RW g hs js :: l)) (hP : SmP k n sp hs mb F) (hI : HI hs mm c) (hmb : MOk mb cb) (hx1 : (cap - hs.length) * 13 ≤ js.length) (hx2 : hs.length ≤ cap) (hx3 : cap ≤ maxLen) (hk1 : 1 ≤ k) (hk : k ≤ 200) (hroom : k ≤ (hs.length : Int)) (q : Px) (hgq : mget mm q = none) (wv : Nat) (hw : 0 < wv) (hn : n + wv ≤ 4611686018427387904) : Calls Tryz.prog 203 #[.pointer (some ⟨S, 0, none⟩), q.v, .int .u64 (wv : Int)] w fun e w' => e = .returned (.int .i64 0) ∧ SmR w0 k (n + wv) (fAdd F q wv) S l w' := by
  have hnb := hP.nb
  have hsb := hP.sb
  have hlen := hP.len
  have hlen6 : hs.length ≤ 1000000 := by omega
  have hi : 0 < hs.length := by omega
  have hout := hI.out_of hgq
  have hnb3 : n + 0 ≤ 4611686018427387904 := hnb
  have HP := Lib.hid hP
  have HIN := Lib.hid hI
  have HOUT := Lib.hid hout
  clear hP hI hout
  have hz : ((wv : Int) == 0) = false := by simp; omega
  have hfull : decide ((hs.length : Int) ≥ k) = true := decide_eq_true hroom
  have w1 : IntKind.u64.wrap (4611686018427387904 - (n : Int)) = 4611686018427387904 - (n : Int) := IntWalk.u64_in _ (by omega)
  have w2 : IntKind.u64.wrap ((n : Int) + (wv : Int)) = ((n + wv : Nat) : Int) := by rw [IntWalk.u64_in _ (by omega)]; push_cast; rfl
  have ht : decide ((wv : Int) > 4611686018427387904 - (n : Int)) = false := decide_eq_false (by omega)
  go_enter Tryz.func203, Tryz.ntmps203
  go_wp2_with (first | (go_at_call 205; (refine (smade _ (HH.get 1 rfl)).mono ?_); rintro e V ⟨rfl, hb⟩; replace HH := HH.next hb; clear hb; (try simp only [Act.put, zz])) | (go_at_call 207; have H9 := ((HH.front 4 rfl).front 4 rfl); simp only [List.eraseIdx] at H9; (with_reducible refine (hraise_no H9 q wv hgq).mono ?_); clear H9; rintro e9 V ⟨rfl, HH2⟩; clear HH; have HH := (((HH2.front 4 rfl).front 4 rfl).front 4 rfl); clear HH2; simp only [List.eraseIdx] at HH; (try simp only [Act.put, zz])) | (go_at_call 209; have H9 := (((((HH.front 5 rfl).front 5 rfl).front 5 rfl).front 5 rfl).front 5 rfl); simp only [List.eraseIdx] at H9; (with_reducible refine (sevict_walk H9 hi rfl hlen6 hx1 hx2 hx3 HIN.out).mono ?_); clear H9; rintro e9 V ⟨rfl, x, hs3, mm3, c3, v3, r3, hpm3, hI3, HS3, HH2⟩; clear HH; obtain ⟨a9, c9, rfl⟩ := HS3.form; have HH := HH2.sift4; clear HH2; have hP3 := HP.out.evict hmb HIN.out.nodup hpm3; obtain ⟨sp2, hsp2e⟩ : ∃ sp2, max sp x.w = sp2 := ⟨_, rfl⟩; rw [hsp2e] at HH hP3; have hsb2 := hP3.sb; have HP3 := Lib.hid hP3; clear hP3; have hl3 := hpm3.length_eq; rw [List.length_append, List.length_singleton] at hl3; have hlen3 : hs3.length ≤ 900000 := (by omega); have hgq3 : mget mm3 q = none := hI3.2.2 q (fun y hy => HOUT.out y (hpm3.subset (by simp [hy]))); have HIN3 := Lib.hid hI3; clear hI3; have HPM3 := Lib.hid hpm3; clear hpm3; obtain ⟨u, hu⟩ : ∃ u, sp2 + wv = u := ⟨_, rfl⟩; have w3 : IntKind.u64.wrap ((sp2 : Int) + (wv : Int)) = (u : Int) := (by rw [IntWalk.u64_in _ (by omega)]; omega); (try simp only [Act.put, zz])) | ((with_reducible show zW (Op.mapUpdate 81 _ _ _)); refine wpl_put (enc := encU) HH 2 q sp2 rfl rfl rfl rfl rfl rfl ?_; clear HH; intro V HH; (try simp only [zC, zB] at HH); (try simp only [Act.put, zz])) | (go_at_call 210; have H9 := HH.sift5; (with_reducible refine (hadd_walk H9 HS3 q u hgq3 hlen3 HIN3.out).mono ?_); clear H9; rintro e9 V ⟨rfl, hs2, mm2, c2, v2, r2, hpm2, hI2, HS2, HH2⟩; clear HH; obtain ⟨a7, c7, rfl⟩ := HS2.form; have HH := HH2.sift; clear HH2; have HI2 := Lib.hid hI2; clear hI2; have HPM2 := Lib.hid hpm2; clear hpm2; (try simp only [Act.put, zz])) | ((with_reducible show zX (Op.load _ _)); (refine wpl_load HH 1 rfl rfl rfl rfl rfl ?_; (try simp only [Act.put, zz]))) | ((with_reducible show zX (Op.binOp _ _ _ _ _)); (refine wpl_cmp (p := ?_) rfl rfl rfl ?_ ?_ ?_; rotate_left; (focus (go_simp; with_reducible rfl)); all_goals (intro hq; (try (contradiction)); (try simp only [zw] at hq); (try simp only [Act.put, zz])))) | ((with_reducible show zW (Op.store _ _ _)); (refine wpl_store HH 1 rfl rfl rfl rfl rfl rfl rfl rfl ?_; clear HH; intro V HH; simp only [Act.eval, zx, Value.cells, putl, zC, zB] at HH; (try simp only [Act.put, zz]))) | ((with_reducible show zW (Op.box _ _)); refine wpl_box HH rfl rfl rfl ?_; clear HH; intro b V HH; simp only [Act.eval, zx, Value.cells, putl, zC, zB] at HH; (try simp only [Act.put, zz])) | ((with_reducible show Code.wp _ (Code.region _ _ true) _ _ _); (first | (refine wp_tail_Hp (id := 8) [0, 1, 2, 3, 4, 5] [6, 7] (by kernel_rfl) HH ?_; clear HH; (try simp only [pick, zy]); repeat' (first | ((with_reducible show wpB _ _ _ _ [] _); refine wpB_nil ?_; intro V HH) | (((with_reducible show zU _); (first | ((with_reducible show zT (Op.move _)); refine wpB_move rfl rfl rfl ?_) | ((with_reducible show zT (Op.load _ _)); (first | refine wpB_load 0 rfl rfl rfl rfl rfl ?_ | refine wpB_load 1 rfl rfl rfl rfl rfl ?_)) | (refine wpB_val (v := ?_) rfl ?_ ?_; rotate_left; (focus (intro w9 hS9; go_simp; all_goals (with_reducible rfl)))))); all_goals (try simp only [Act.put, zz, Act.eval, zx])))) | (refine wp_tail_Hp (id := 10) [0, 1, 2, 3, 4, 5, 6, 7, 8, 9] [] (by kernel_rfl) HH ?_; clear HH; (try simp only [pick, zy]); repeat' (first | ((with_reducible show wpB _ _ _ _ [] _); refine wpB_nil ?_; intro V HH) | (((with_reducible show zU _); (first | ((with_reducible show zT (Op.move _)); refine wpB_move rfl rfl rfl ?_) | ((with_reducible show zU (Op.call _)); refine wpB_callH (f := 208) (args := #[.pointer (some ⟨H, 0, none⟩)]) (v := .int .i64 (hs.length : Int)) rfl (fun V hV => hlen_walk V (Hp.get hV 3 rfl)) (fun w9 hS9 => ?_) ?_; (focus (go_simp; all_goals (fail)))) | ((with_reducible show zT (Op.load _ _)); (refine wpB_load 1 rfl rfl rfl rfl rfl ?_)) | ((with_reducible show zT (Op.binOp _ _ _ _ _)); (refine wpB_bool (p := ?_) rfl ?_ ?_ ?_; rotate_left; (focus (intro w9 hS9; go_simp; with_reducible rfl)); all_goals (intro hq; (try (contradiction))))) | (refine wpB_val (v := ?_) rfl ?_ ?_; rotate_left; (focus (intro w9 hS9; go_simp; all_goals (with_reducible rfl)))))); all_goals (try simp only [Act.put, zz, Act.eval, zx])))) | (refine wp_tail_Hp (id := 12) [0, 1, 2, 3, 4, 5, 6, 7, 8] [9] (by kernel_rfl) HH ?_; clear HH; (try simp only [pick, zy]); repeat' (first | ((with_reducible show wpB _ _ _ _ [] _); refine wpB_nil ?_; intro V HH) | (((with_reducible show zU _); (first | ((with_reducible show zT (Op.move _)); refine wpB_move rfl rfl rfl ?_) | ((with_reducible show zT (Op.load _ _)); (first | refine wpB_load 0 rfl rfl rfl rfl rfl ?_ | refine wpB_load 1 rfl rfl rfl rfl rfl ?_)) | (refine wpB_val (v := ?_) rfl ?_ ?_; rotate_left; (focus (intro w9 hS9; go_simp; all_goals (with_reducible rfl)))))); all_goals (try simp only [Act.put, zz, Act.eval, zx])))) | (refine wp_tail_Hp (id := 13) [0, 1, 2, 3, 4, 5, 6, 7, 8, 9, 10] [11, 12] (by kernel_rfl) HH ?_; clear HH; (try simp only [pick, zy]); repeat' (first | ((with_reducible show wpB _ _ _ _ [] _); refine wpB_nil ?_; intro V HH) | (((with_reducible show zU _); (first | ((with_reducible show zT (Op.move _)); refine wpB_move rfl rfl rfl ?_) | ((with_reducible show zT (Op.load _ _)); (first | refine wpB_load 0 rfl rfl rfl rfl rfl ?_ | refine wpB_load 1 rfl rfl rfl rfl rfl ?_)) | (refine wpB_val (v := ?_) rfl ?_ ?_; rotate_left; (focus (intro w9 hS9; go_simp; all_goals (with_reducible rfl)))))); all_goals (try simp only [Act.put, zz, Act.eval, zx])))))))
  go_ret
  subst hu
  exact ⟨rfl, H, bb, bm, sp2, c2, _, hs2, mm2, _, _, r2, HP3.out.add (c := cb) q (HIN3.out.out_of hgq3) wv hn HPM2.out, HI2.out, (hmb.del x.p).put q sp2, HS2, HH.drop rfl⟩

theorem HI.look {hs : List It} {mm : List (Me Int)} {c : Nat} (h : HI hs mm c) (q : Px) : mget mm q = none ∨ ∃ (i : Nat) (hi : i < hs.length), hs[i].p = q ∧ mget mm q = some (i : Int) := by
  by_cases h1 : ∀ x ∈ hs, x.p ≠ q
  · exact .inl (h.2.2 q h1)
  · refine .inr ?_
    simp only [Classical.not_forall, Classical.not_not] at h1
    obtain ⟨x, hx, e⟩ := h1
    obtain ⟨i, hi, rfl⟩ := List.getElem_of_mem hx
    exact ⟨i, hi, e, by rw [← e]; exact h.2.1 i hi⟩
theorem sins_walk {w0 w : World} {l : List En} {S H bb bm c cb : Nat} {k : Int} {n sp : Nat} {hs : List It} {mm : List (Me Int)} {mb : List (Me Nat)} {F : Px → Nat} {v : Value} {r : List En} (HH : Hp w0 w (SB S H bb k n sp :: ⟨bb, mp encU mb cb, true⟩ :: HB H bm v :: ⟨bm, mp encI mm c, true⟩ :: (r ++ l))) (hP : SmP k n sp hs mb F) (hI : HI hs mm c) (hmb : MOk mb cb) (HS : SlR 250 13 true v hs.length (hrow hs) r) (hk1 : 1 ≤ k) (hk : k ≤ 200) (q : Px) (wv : Nat) (hn : n + wv ≤ 4611686018427387904) : Calls Tryz.prog 203 #[.pointer (some ⟨S, 0, none⟩), q.v, .int .u64 (wv : Int)] w fun e w' => e = .returned (.int .i64 0) ∧ SmR w0 k (n + wv) (fAdd F q wv) S l w' := by
  rcases Nat.eq_zero_or_pos wv with h0 | h0
  · subst h0
    exact sins_zero HH hP hI hmb HS q
  · rcases hI.look q with hg | ⟨i, hi, rfl, hg⟩
    · by_cases hr : (hs.length : Int) < k
      · exact sins_room HH hP hI hmb HS hk hr q hg wv h0 hn
      · obtain ⟨g, cap, js, rfl, rfl, hx1, hx2, hx3⟩ := HS.some (by omega)
        exact sins_full HH hP hI hmb hx1 hx2 hx3 hk1 hk (by omega) q hg wv h0 hn
    · obtain ⟨g, cap, js, rfl, rfl, hx1, hx2, hx3⟩ := HS.some (by omega)
      exact sins_yes HH hP hI hmb hx1 hx2 hx3 hk i hi wv h0 hn
/-- What Low and High tell. -/
def slowV (hs : List It) (mm : List (Me Int)) (mb : List (Me Nat)) (p : Px) : Nat := match mget mm p with
  | some i => (hs[i.toNat]?.map It.w).getD 0 - bOf mb p
  | none => 0
def shighV (sp : Nat) (hs : List It) (mm : List (Me Int)) (p : Px) : Nat := match mget mm p with
  | some i => (hs[i.toNat]?.map It.w).getD 0
  | none => sp
theorem slowV_yes {hs : List It} {mm : List (Me Int)} {mb : List (Me Nat)} {q : Px} {i : Nat} (hi : i < hs.length) (hg : mget mm q = some (i : Int)) : slowV hs mm mb q = hs[i].w - bOf mb q := by
  unfold slowV
  rw [hg]
  simp [List.getElem?_eq_getElem hi]
theorem shighV_yes {sp : Nat} {hs : List It} {mm : List (Me Int)} {q : Px} {i : Nat} (hi : i < hs.length) (hg : mget mm q = some (i : Int)) : shighV sp hs mm q = hs[i].w := by
  unfold shighV
  rw [hg]
  simp [List.getElem?_eq_getElem hi]
theorem SmP.bounds {k : Int} {n sp c : Nat} {hs : List It} {mb : List (Me Nat)} {mm : List (Me Int)} {F : Px → Nat} (h : SmP k n sp hs mb F) (hI : HI hs mm c) (p : Px) : slowV hs mm mb p ≤ F p ∧ F p ≤ shighV sp hs mm p := by
  rcases hI.look p with hg | ⟨i, hi, rfl, hg⟩
  · unfold slowV shighV
    rw [hg]
    exact ⟨Nat.zero_le _, h.out p (hI.out_of hg)⟩
  · rw [slowV_yes hi hg, shighV_yes hi hg]
    have := h.it _ (List.getElem_mem hi)
    omega

set_option maxRecDepth 100000 in
set_option maxHeartbeats 4000000 in
theorem slow_no {w0 w : World} {l : List En} {S H bb bm c cb : Nat} {k : Int} {n sp : Nat} {hs : List It} {mm : List (Me Int)} {mb : List (Me Nat)} {v : Value} (HH : Hp w0 w (SB S H bb k n sp :: ⟨bb, mp encU mb cb, true⟩ :: HB H bm v :: ⟨bm, mp encI mm c, true⟩ :: l)) (q : Px) (hgq : mget mm q = none) : Calls Tryz.prog 204 #[.pointer (some ⟨S, 0, none⟩), q.v] w fun e w' => e = .returned (.int .u64 ((0 : Nat) : Int)) ∧ Hp w0 w' (SB S H bb k n sp :: ⟨bb, mp encU mb cb, true⟩ :: HB H bm v :: ⟨bm, mp encI mm c, true⟩ :: l) := by
  go_enter Tryz.func204, Tryz.ntmps204
  go_wp2_with (first | (go_at_call 205; (refine (smade _ (HH.get 1 rfl)).mono ?_); rintro e V ⟨rfl, hb⟩; replace HH := HH.next hb; clear hb; (try simp only [Act.put, zz])) | ((with_reducible show zW (Op.box _ _)); refine wpl_box HH rfl rfl rfl ?_; clear HH; intro b V HH; simp only [Act.eval, zx, Value.cells, putl, zC, zB] at HH; (try simp only [Act.put, zz])) | ((with_reducible show Code.wp _ (Code.region _ _ true) _ _ _); (refine wp_tail_Hp (id := 3) [0, 1, 2, 3, 4, 5, 6, 7, 8, 9, 10] [] (by kernel_rfl) HH ?_; clear HH; (try simp only [pick, zy]); repeat' (first | ((with_reducible show wpB _ _ _ _ [] _); refine wpB_nil ?_; intro V HH) | (((with_reducible show zU _); (first | ((with_reducible show zT (Op.move _)); refine wpB_move rfl rfl rfl ?_) | ((with_reducible show zT (Op.assign _)); refine wpB_assign rfl rfl rfl ?_) | ((with_reducible show zU (Op.call _)); refine wpB_callH (f := 206) (args := #[.pointer (some ⟨H, 0, none⟩), q.v]) (v := .tuple #[.int .u64 0, .bool false]) rfl (fun V hV => hget_no V (Hp.get hV 3 rfl) (Hp.get hV 4 rfl) q hgq) (fun w9 hS9 => ?_) ?_; (focus (go_simp; all_goals (fail)))) | ((with_reducible show zT (Op.load _ _)); (first | refine wpB_load 0 rfl rfl rfl rfl rfl ?_ | refine wpB_load 1 rfl rfl rfl rfl rfl ?_)) | (refine wpB_val (v := ?_) rfl ?_ ?_; rotate_left; (focus (intro w9 hS9; go_simp; all_goals (with_reducible rfl)))))); all_goals (try simp only [Act.put, zz, Act.eval, zx]))))))
  go_ret
  exact ⟨rfl, HH.drop rfl⟩

set_option maxRecDepth 100000 in
set_option maxHeartbeats 4000000 in
theorem shigh_no {w0 w : World} {l : List En} {S H bb bm c cb : Nat} {k : Int} {n sp : Nat} {hs : List It} {mm : List (Me Int)} {mb : List (Me Nat)} {v : Value} (HH : Hp w0 w (SB S H bb k n sp :: ⟨bb, mp encU mb cb, true⟩ :: HB H bm v :: ⟨bm, mp encI mm c, true⟩ :: l)) (q : Px) (hgq : mget mm q = none) : Calls Tryz.prog 201 #[.pointer (some ⟨S, 0, none⟩), q.v] w fun e w' => e = .returned (.int .u64 ((sp : Nat) : Int)) ∧ Hp w0 w' (SB S H bb k n sp :: ⟨bb, mp encU mb cb, true⟩ :: HB H bm v :: ⟨bm, mp encI mm c, true⟩ :: l) := by
  go_enter Tryz.func201, Tryz.ntmps201
  go_wp2_with (first | (go_at_call 205; (refine (smade _ (HH.get 1 rfl)).mono ?_); rintro e V ⟨rfl, hb⟩; replace HH := HH.next hb; clear hb; (try simp only [Act.put, zz])) | ((with_reducible show zX (Op.load _ _)); (refine wpl_load HH 1 rfl rfl rfl rfl rfl ?_; (try simp only [Act.put, zz]))) | ((with_reducible show zW (Op.box _ _)); refine wpl_box HH rfl rfl rfl ?_; clear HH; intro b V HH; simp only [Act.eval, zx, Value.cells, putl, zC, zB] at HH; (try simp only [Act.put, zz])) | ((with_reducible show Code.wp _ (Code.region _ _ true) _ _ _); (refine wp_tail_Hp (id := 3) [0, 1, 2, 3, 4, 5, 6, 7, 8, 9, 10] [] (by kernel_rfl) HH ?_; clear HH; (try simp only [pick, zy]); repeat' (first | ((with_reducible show wpB _ _ _ _ [] _); refine wpB_nil ?_; intro V HH) | (((with_reducible show zU _); (first | ((with_reducible show zT (Op.move _)); refine wpB_move rfl rfl rfl ?_) | ((with_reducible show zT (Op.assign _)); refine wpB_assign rfl rfl rfl ?_) | ((with_reducible show zU (Op.call _)); refine wpB_callH (f := 206) (args := #[.pointer (some ⟨H, 0, none⟩), q.v]) (v := .tuple #[.int .u64 0, .bool false]) rfl (fun V hV => hget_no V (Hp.get hV 3 rfl) (Hp.get hV 4 rfl) q hgq) (fun w9 hS9 => ?_) ?_; (focus (go_simp; all_goals (fail)))) | ((with_reducible show zT (Op.load _ _)); (first | refine wpB_load 0 rfl rfl rfl rfl rfl ?_ | refine wpB_load 1 rfl rfl rfl rfl rfl ?_)) | (refine wpB_val (v := ?_) rfl ?_ ?_; rotate_left; (focus (intro w9 hS9; go_simp; all_goals (with_reducible rfl)))))); all_goals (try simp only [Act.put, zz, Act.eval, zx]))))))
  go_ret
  exact ⟨rfl, HH.drop rfl⟩

set_option maxRecDepth 100000 in
set_option maxHeartbeats 4000000 in
theorem shigh_yes {w0 w : World} {l : List En} {S H bb bm c cb : Nat} {k : Int} {n sp : Nat} {hs : List It} {mm : List (Me Int)} {mb : List (Me Nat)} {g cap : Nat} {js : List Value} (HH : Hp w0 w (SB S H bb k n sp :: ⟨bb, mp encU mb cb, true⟩ :: HB H bm (.slice (some ⟨g, 0, none⟩) hs.length cap) :: ⟨bm, mp encI mm c, true⟩ :: RW g hs js :: l)) (q : Px) (i : Nat) (hi : i < hs.length) (hgq : mget mm q = some (i : Int)) : Calls Tryz.prog 201 #[.pointer (some ⟨S, 0, none⟩), q.v] w fun e w' => e = .returned (.int .u64 (hs[i].w : Int)) ∧ Hp w0 w' (SB S H bb k n sp :: ⟨bb, mp encU mb cb, true⟩ :: HB H bm (.slice (some ⟨g, 0, none⟩) hs.length cap) :: ⟨bm, mp encI mm c, true⟩ :: RW g hs js :: l) := by
  go_enter Tryz.func201, Tryz.ntmps201
  go_wp2_with (first | (go_at_call 205; (refine (smade _ (HH.get 1 rfl)).mono ?_); rintro e V ⟨rfl, hb⟩; replace HH := HH.next hb; clear hb; (try simp only [Act.put, zz])) | ((with_reducible show zW (Op.box _ _)); refine wpl_box HH rfl rfl rfl ?_; clear HH; intro b V HH; simp only [Act.eval, zx, Value.cells, putl, zC, zB] at HH; (try simp only [Act.put, zz])) | ((with_reducible show Code.wp _ (Code.region _ _ true) _ _ _); (refine wp_tail_Hp (id := 3) [0, 1, 2, 3, 4, 5, 6, 7, 8, 9, 10] [] (by kernel_rfl) HH ?_; clear HH; (try simp only [pick, zy]); repeat' (first | ((with_reducible show wpB _ _ _ _ [] _); refine wpB_nil ?_; intro V HH) | (((with_reducible show zU _); (first | ((with_reducible show zT (Op.move _)); refine wpB_move rfl rfl rfl ?_) | ((with_reducible show zT (Op.assign _)); refine wpB_assign rfl rfl rfl ?_) | ((with_reducible show zU (Op.call _)); refine wpB_callH (f := 206) (args := #[.pointer (some ⟨H, 0, none⟩), q.v]) (v := .tuple #[.int .u64 (hs[i].w : Int), .bool true]) rfl (fun V hV => hget_yes V (Hp.get hV 3 rfl) (Hp.get hV 4 rfl) (Hp.get hV 5 rfl) q i hi rfl hgq) (fun w9 hS9 => ?_) ?_; (focus (go_simp; all_goals (fail)))) | ((with_reducible show zT (Op.load _ _)); (first | refine wpB_load 0 rfl rfl rfl rfl rfl ?_ | refine wpB_load 1 rfl rfl rfl rfl rfl ?_)) | (refine wpB_val (v := ?_) rfl ?_ ?_; rotate_left; (focus (intro w9 hS9; go_simp; all_goals (with_reducible rfl)))))); all_goals (try simp only [Act.put, zz, Act.eval, zx]))))))
  go_ret
  exact ⟨rfl, HH.drop rfl⟩

set_option maxRecDepth 100000 in
set_option maxHeartbeats 4000000 in
theorem slow_yes {w0 w : World} {l : List En} {S H bb bm c cb : Nat} {k : Int} {n sp : Nat} {hs : List It} {mm : List (Me Int)} {mb : List (Me Nat)} {g cap : Nat} {js : List Value} (HH : Hp w0 w (SB S H bb k n sp :: ⟨bb, mp encU mb cb, true⟩ :: HB H bm (.slice (some ⟨g, 0, none⟩) hs.length cap) :: ⟨bm, mp encI mm c, true⟩ :: RW g hs js :: l)) (q : Px) (i : Nat) (hi : i < hs.length) (hgq : mget mm q = some (i : Int)) (hw : hs[i].w ≤ 4611686018427387904) (hbw : bOf mb q ≤ hs[i].w) : Calls Tryz.prog 204 #[.pointer (some ⟨S, 0, none⟩), q.v] w fun e w' => e = .returned (.int .u64 ((hs[i].w - bOf mb q : Nat) : Int)) ∧ Hp w0 w' (SB S H bb k n sp :: ⟨bb, mp encU mb cb, true⟩ :: HB H bm (.slice (some ⟨g, 0, none⟩) hs.length cap) :: ⟨bm, mp encI mm c, true⟩ :: RW g hs js :: l) := by
  obtain ⟨u, hu⟩ : ∃ u, hs[i].w - bOf mb q = u := ⟨_, rfl⟩
  rw [hu]
  unfold bOf at hu hbw
  cases hgb : mget mb q with
  | none =>
    rw [hgb] at hu hbw
    simp only [Option.getD_none] at hu hbw
    have w1 : IntKind.u64.wrap ((hs[i].w : Int)) = (u : Int) := by rw [IntWalk.u64_in _ (by omega)]; omega
    have w2 : IntKind.u64.wrap ((hs[i].w : Int) - 0) = (u : Int) := by rw [IntWalk.u64_in _ (by omega)]; omega
    clear hu
    go_enter Tryz.func204, Tryz.ntmps204
    go_wp2_with (first | (go_at_call 205; (refine (smade _ (HH.get 1 rfl)).mono ?_); rintro e V ⟨rfl, hb⟩; replace HH := HH.next hb; clear hb; (try simp only [Act.put, zz])) | ((with_reducible show zW (Op.box _ _)); refine wpl_box HH rfl rfl rfl ?_; clear HH; intro b V HH; simp only [Act.eval, zx, Value.cells, putl, zC, zB] at HH; (try simp only [Act.put, zz])) | ((with_reducible show Code.wp _ (Code.region _ _ true) _ _ _); (first | (refine wp_tail_Hp (id := 3) [0, 1, 2, 3, 4, 5, 6, 7, 8, 9, 10] [] (by kernel_rfl) HH ?_; clear HH; (try simp only [pick, zy]); repeat' (first | ((with_reducible show wpB _ _ _ _ [] _); refine wpB_nil ?_; intro V HH) | (((with_reducible show zU _); (first | ((with_reducible show zT (Op.move _)); refine wpB_move rfl rfl rfl ?_) | ((with_reducible show zT (Op.assign _)); refine wpB_assign rfl rfl rfl ?_) | ((with_reducible show zU (Op.call _)); refine wpB_callH (f := 206) (args := #[.pointer (some ⟨H, 0, none⟩), q.v]) (v := .tuple #[.int .u64 (hs[i].w : Int), .bool true]) rfl (fun V hV => hget_yes V (Hp.get hV 3 rfl) (Hp.get hV 4 rfl) (Hp.get hV 5 rfl) q i hi rfl hgq) (fun w9 hS9 => ?_) ?_; (focus (go_simp; all_goals (fail)))) | ((with_reducible show zT (Op.load _ _)); (first | refine wpB_load 0 rfl rfl rfl rfl rfl ?_ | refine wpB_load 1 rfl rfl rfl rfl rfl ?_)) | (refine wpB_val (v := ?_) rfl ?_ ?_; rotate_left; (focus (intro w9 hS9; go_simp; all_goals (with_reducible rfl)))))); all_goals (try simp only [Act.put, zz, Act.eval, zx])))) | (refine wp_tail_Hp (id := 6) [0, 1, 2, 3, 4, 5, 6, 7, 8] [] (by kernel_rfl) HH ?_; clear HH; (try simp only [pick, zy]); repeat' (first | ((with_reducible show wpB _ _ _ _ [] _); refine wpB_nil ?_; intro V HH) | (((with_reducible show zU _); (first | ((with_reducible show zT (Op.move _)); refine wpB_move rfl rfl rfl ?_) | ((with_reducible show zT (Op.assign _)); refine wpB_assign rfl rfl rfl ?_) | ((with_reducible show zU (Op.lookup 81 _ _ _)); refine wpB_lookN1 2 q hgb rfl rfl rfl rfl rfl ?_) | ((with_reducible show zT (Op.load _ _)); (first | refine wpB_load 0 rfl rfl rfl rfl rfl ?_ | refine wpB_load 1 rfl rfl rfl rfl rfl ?_)) | (refine wpB_val (v := ?_) rfl ?_ ?_; rotate_left; (focus (intro w9 hS9; go_simp; all_goals (with_reducible rfl)))))); all_goals (try simp only [Act.put, zz, Act.eval, zx])))))))
    go_ret
    exact ⟨rfl, HH.drop rfl⟩
  | some b =>
    rw [hgb] at hu hbw
    simp only [zL] at hu hbw
    have w1 : IntKind.u64.wrap ((hs[i].w : Int) - (b : Int)) = (u : Int) := by rw [IntWalk.u64_in _ (by omega)]; omega
    clear hu
    go_enter Tryz.func204, Tryz.ntmps204
    go_wp2_with (first | (go_at_call 205; (refine (smade _ (HH.get 1 rfl)).mono ?_); rintro e V ⟨rfl, hb⟩; replace HH := HH.next hb; clear hb; (try simp only [Act.put, zz])) | ((with_reducible show zW (Op.box _ _)); refine wpl_box HH rfl rfl rfl ?_; clear HH; intro b V HH; simp only [Act.eval, zx, Value.cells, putl, zC, zB] at HH; (try simp only [Act.put, zz])) | ((with_reducible show Code.wp _ (Code.region _ _ true) _ _ _); (first | (refine wp_tail_Hp (id := 3) [0, 1, 2, 3, 4, 5, 6, 7, 8, 9, 10] [] (by kernel_rfl) HH ?_; clear HH; (try simp only [pick, zy]); repeat' (first | ((with_reducible show wpB _ _ _ _ [] _); refine wpB_nil ?_; intro V HH) | (((with_reducible show zU _); (first | ((with_reducible show zT (Op.move _)); refine wpB_move rfl rfl rfl ?_) | ((with_reducible show zT (Op.assign _)); refine wpB_assign rfl rfl rfl ?_) | ((with_reducible show zU (Op.call _)); refine wpB_callH (f := 206) (args := #[.pointer (some ⟨H, 0, none⟩), q.v]) (v := .tuple #[.int .u64 (hs[i].w : Int), .bool true]) rfl (fun V hV => hget_yes V (Hp.get hV 3 rfl) (Hp.get hV 4 rfl) (Hp.get hV 5 rfl) q i hi rfl hgq) (fun w9 hS9 => ?_) ?_; (focus (go_simp; all_goals (fail)))) | ((with_reducible show zT (Op.load _ _)); (first | refine wpB_load 0 rfl rfl rfl rfl rfl ?_ | refine wpB_load 1 rfl rfl rfl rfl rfl ?_)) | (refine wpB_val (v := ?_) rfl ?_ ?_; rotate_left; (focus (intro w9 hS9; go_simp; all_goals (with_reducible rfl)))))); all_goals (try simp only [Act.put, zz, Act.eval, zx])))) | (refine wp_tail_Hp (id := 6) [0, 1, 2, 3, 4, 5, 6, 7, 8] [] (by kernel_rfl) HH ?_; clear HH; (try simp only [pick, zy]); repeat' (first | ((with_reducible show wpB _ _ _ _ [] _); refine wpB_nil ?_; intro V HH) | (((with_reducible show zU _); (first | ((with_reducible show zT (Op.move _)); refine wpB_move rfl rfl rfl ?_) | ((with_reducible show zT (Op.assign _)); refine wpB_assign rfl rfl rfl ?_) | ((with_reducible show zU (Op.lookup 81 _ _ _)); refine wpB_lookS1 2 q hgb rfl rfl rfl rfl rfl ?_) | ((with_reducible show zT (Op.load _ _)); (first | refine wpB_load 0 rfl rfl rfl rfl rfl ?_ | refine wpB_load 1 rfl rfl rfl rfl rfl ?_)) | (refine wpB_val (v := ?_) rfl ?_ ?_; rotate_left; (focus (intro w9 hS9; go_simp; all_goals (with_reducible rfl)))))); all_goals (try simp only [Act.put, zz, Act.eval, zx])))))))
    go_ret
    exact ⟨rfl, HH.drop rfl⟩

theorem slow_walk {w0 w : World} {l : List En} {S H bb bm c cb : Nat} {k : Int} {n sp : Nat} {hs : List It} {mm : List (Me Int)} {mb : List (Me Nat)} {F : Px → Nat} {v : Value} {r : List En} (HH : Hp w0 w (SB S H bb k n sp :: ⟨bb, mp encU mb cb, true⟩ :: HB H bm v :: ⟨bm, mp encI mm c, true⟩ :: (r ++ l))) (hP : SmP k n sp hs mb F) (hI : HI hs mm c) (HS : SlR 250 13 true v hs.length (hrow hs) r) (q : Px) : Calls Tryz.prog 204 #[.pointer (some ⟨S, 0, none⟩), q.v] w fun e w' => e = .returned (.int .u64 (slowV hs mm mb q : Int)) ∧ Hp w0 w' (SB S H bb k n sp :: ⟨bb, mp encU mb cb, true⟩ :: HB H bm v :: ⟨bm, mp encI mm c, true⟩ :: (r ++ l)) := by
  rcases hI.look q with hg | ⟨i, hi, rfl, hg⟩
  · have h1 : slowV hs mm mb q = 0 := by unfold slowV; rw [hg]
    rw [h1]
    exact slow_no (hs := hs) HH q hg
  · obtain ⟨g, cap, js, rfl, rfl, _, _, _⟩ := HS.some (by omega)
    have h2 := hP.it _ (List.getElem_mem hi)
    have h3 := hP.nb
    rw [slowV_yes hi hg]
    exact slow_yes HH _ i hi hg (by omega) h2.2.1
theorem shigh_walk {w0 w : World} {l : List En} {S H bb bm c cb : Nat} {k : Int} {n sp : Nat} {hs : List It} {mm : List (Me Int)} {mb : List (Me Nat)} {v : Value} {r : List En} (HH : Hp w0 w (SB S H bb k n sp :: ⟨bb, mp encU mb cb, true⟩ :: HB H bm v :: ⟨bm, mp encI mm c, true⟩ :: (r ++ l))) (hI : HI hs mm c) (HS : SlR 250 13 true v hs.length (hrow hs) r) (q : Px) : Calls Tryz.prog 201 #[.pointer (some ⟨S, 0, none⟩), q.v] w fun e w' => e = .returned (.int .u64 (shighV sp hs mm q : Int)) ∧ Hp w0 w' (SB S H bb k n sp :: ⟨bb, mp encU mb cb, true⟩ :: HB H bm v :: ⟨bm, mp encI mm c, true⟩ :: (r ++ l)) := by
  rcases hI.look q with hg | ⟨i, hi, rfl, hg⟩
  · have h1 : shighV sp hs mm q = sp := by unfold shighV; rw [hg]
    rw [h1]
    exact shigh_no (hs := hs) HH q hg
  · obtain ⟨g, cap, js, rfl, rfl, _, _, _⟩ := HS.some (by omega)
    rw [shighV_yes hi hg]
    exact shigh_yes HH _ i hi hg

end Go.Proofs.YtcbahkfbdlhabaaGreatDoor
