/- A part of the proof that the law TopThree returns true for all arguments of bulk at most 1048576 (no other condition). Here: press.Press. engine.made, engine.pressed. -/
import Derived.Test.YtcbahkfbdlhabaaGreatDoorK20
import Derived.Test.YtcbahkfbdlhabaaGreatDoorK11
namespace Go.Proofs.YtcbahkfbdlhabaaGreatDoor
set_option linter.unusedVariables false
set_option linter.unusedSimpArgs false
open Go.RowKit
attribute [local go_sem] index24_0 index24_1 field34_0 field34_1
attribute [local irreducible] wpList Code.wp wpB

theorem results_ctt {fn : Func} {p T n b q q2 : Nat} {tmps : Array Value} {w0 W : World} {l : List En} {c : List Value} {t : TypeId} {own agg : Bool} {v : Value} (hr : fn.results = #[.cell p T, .tmp q, .tmp q2]) (HH : Hp w0 W l) (i : Nat) (hp : tmps.getD p undef = .pointer (some ⟨b, 0, none⟩)) (he : l[i]? = some ⟨b, .cells c.toArray t (0, 0), own⟩)
    [hs : Shp T agg n] (hv : rdv agg n c 0 = some v) : (results fn tmps).run Tryz.prog W = .ok (.tuple #[v, tmps.getD q undef, tmps.getD q2 undef]) W := by
  have h1 := run_loadVar_en hs (HH.get i he) hv
  have hp' : tmps[p]?.getD undef = .pointer (some ⟨b, 0, none⟩) := by simpa using hp
  simp [results, hr, hp', asAddr, h1]
/-- The prefix one level over another one, of a space of one dimension. -/
def upP (s : Sp) (p : Px) : Px := upX okL lenL topT s p (p.a0 + 1) p.a1
/-- What Press is told of its space. -/
structure PSp (s : Sp) : Prop where
  pos : ∀ p, RB s p = true → 1 ≤ (allP s p).length
  par : ∀ p, p.ok → RB s p = true → p ≠ topX s → ParG s p (upP s p) ∧ (upP s p).ok ∧ RB s (upP s p) = true ∧ (upP s p).a0 = p.a0 + 1
/-- What holds of the nodes and the slack all along. -/
structure PInv (s : Sp) (sl : Nat) (I : List (Me Nd) → Nat → Nat → Prop) : Prop where
  ok : ∀ mn slk h, I mn slk h → ∀ e ∈ mn, e.v.p = e.p ∧ e.p.ok ∧ RB s e.p = true
  len : ∀ mn slk h, I mn slk h → mn ≠ [] ∧ mn.length ≤ 1000000
  sum : ∀ mn slk h, I mn slk h → (∀ e ∈ mn, e.v.g ≤ 4611686018427387904 ∧ e.v.d ≤ 4611686018427387904)
  next : ∀ mn slk h, I mn slk h → I mn slk (h + 1)
  drop : ∀ mn cn slk h x, MOk mn cn → I mn slk h → mget mn x.p = some x → x.p.a0 = (h : Int) → x.p ≠ topX s → I (dropM mn cn x (upP s x.p) sl).1 (max slk (x.g + x.d)) h
theorem dropM_ok {mn : List (Me Nd)} {cn : Nat} (h : MOk mn cn) (x : Nd) (up : Px) (s0 : Nat) : MOk (dropM mn cn x up s0).1 (dropM mn cn x up s0).2 := (h.del x.p).put up _
theorem dropM_get {mn : List (Me Nd)} {cn : Nat} (h : MOk mn cn) (x : Nd) (up : Px) (s0 : Nat) (q : Px) (h1 : q ≠ x.p) (h2 : q ≠ up) : mget (dropM mn cn x up s0).1 q = mget mn q := by
  unfold dropM
  rw [mget_put, if_neg h2, mget_del h, if_neg h1]
/-- What Press yields. -/
def PrR (w0 : World) (s : Sp) (full : Bool) (n sl : Nat) (L : List Nd) (I : List (Me Nd) → Nat → Nat → Prop) (g cap : Nat) (js : List Value) (l : List En) (v : Value) (w' : World) : Prop :=
  (v = .tuple #[.agg #[.int .i64 0, .int .i64 0, .int .i64 0, .int .i64 0, .int .i64 0, .int .i64 0, .int .i64 0, .bool false, .int .u64 0, .int .u64 0, .slice none 0 0], .int .i64 0, .int .i64 3] ∧ Hp w0 w' (⟨g, .cells (nrow L ++ js).toArray 176 (0, 0), true⟩ :: l)) ∨
  (RtF s n sl L ∧ ∃ (mn : List (Me Nd)) (cn slk h : Nat) (L' : List Nd) (v' : Value) (r : List En) (gone : Int), I mn slk h ∧ MOk mn cn ∧ L'.Perm (mn.map Me.v) ∧ v = .tuple #[tv s full n slk v', .int .i64 gone, .int .i64 0] ∧ SlR 176 14 true v' L'.length (nrow L') r ∧ Hp w0 w' (r ++ ⟨g, .cells (nrow L ++ js).toArray 176 (0, 0), true⟩ :: l))

theorem at_facts {mn : List (Me Nd)} {cn : Nat} (hc : MOk mn cn) (hp : ∀ e ∈ mn, e.v.p = e.p) {h : Int} {tp : Px} {Lh : List Nd} (hA : AtL mn h tp Lh) : (Lh.map Nd.p).Nodup ∧ ∀ y ∈ Lh, mget mn y.p = some y := by
  obtain ⟨⟨M, hM⟩, _⟩ := hA
  have e1 : (mn.map Me.v).map Nd.p = mn.map Me.p := by
    rw [List.map_map]
    exact List.map_congr_left fun e he => hp e he
  have h1 := hM.map Nd.p
  rw [e1] at h1
  have h2 := h1.nodup_iff.2 hc.keys
  rw [List.map_append, List.nodup_append] at h2
  refine ⟨h2.1, fun y hy => ?_⟩
  have h3 : y ∈ mn.map Me.v := hM.subset (by simp [hy])
  obtain ⟨e, he, rfl⟩ := List.mem_map.1 h3
  rw [hp e he]
  exact mget_mem hc he
theorem drop_cons {β : Type} {L : List β} {k : Nat} (hk : k < L.length) : L.drop k = L[k] :: L.drop (k + 1) := List.drop_eq_getElem_cons hk

set_option maxRecDepth 100000 in
set_option maxHeartbeats 4000000 in
theorem press_walk {w0 w : World} {l : List En} {g cap n sl : Nat} {s : Sp} {full : Bool} {L : List Nd} {js : List Value} (HH : Hp w0 w (⟨g, .cells (nrow L ++ js).toArray 176 (0, 0), true⟩ :: l)) (hok : ∀ x ∈ L, x.p.ok) (hlen : L.length ≤ 1000000) (hnb : n < 18446744073709551616) (hgb : ∀ x ∈ L, x.g < 18446744073709551616) (hS : PSp s) {I : List (Me Nd) → Nat → Nat → Prop} (hI : PInv s sl I) (h0 : RtF s n sl L → I (begM L).1 sl 0) (th : Nat) :
    Calls Tryz.prog 134 #[(tv s full n sl (.slice (some ⟨g, 0, none⟩) L.length cap)), .int .u64 (th : Int)] w fun e w' => ∃ v, e = .returned v ∧ PrR w0 s full n sl L I g cap js l v w' := by
  obtain ⟨tx, htx⟩ : ∃ tx, tx = topX s := ⟨_, rfl⟩
  have HTALL := tall_gives s
  have htb := top_bounds s
  have hdrop := hI.drop
  have hpar := hS.par
  rw [← htx] at HTALL htb hdrop hpar
  have HTX := Lib.hid htx
  clear htx
  go_enter Tryz.func134, Tryz.ntmps134
  go_wp2_with (first | (go_at_call 140; refine (rt_walk _ (HH.get 2 rfl) hok hlen hnb hgb hS.pos).mono ?_; rintro e V ⟨⟨v, rfl, b1, rfl, hb1⟩, hb⟩; replace HH := HH.next hb; clear hb; cases b1) | (go_at_call 141; have H9 := HH.front 2 rfl; simp only [List.eraseIdx] at H9; have hpx : ∀ x ∈ L, 1 ≤ (allP s x.p).length := (fun x hx => hS.pos _ ((hb1 (by trivial)).2.2.2.2.1 x hx).1); (with_reducible refine (begin_walk H9 hok hlen hpx _).mono ?_); clear H9; rintro e V ⟨v, rfl, K, th2, bn, bo, mo, co, rfl, ho, HH2⟩; rw [← HTX.out] at HH2; clear HH; have HH := HH2; clear HH2; (try simp only [Act.put, zz])) | (go_at_call 142; (with_reducible refine ((HTALL) _).mono ?_); rintro e V ⟨rfl, hb⟩; replace HH := HH.next hb; clear hb) | ((with_reducible show zX (Op.load _ _)); (first | (refine wpl_load HH 1 rfl rfl rfl rfl rfl ?_; (try simp only [Act.put, zz])) | (refine wpl_load HH 5 rfl rfl rfl rfl rfl ?_; (try simp only [Act.put, zz])))) | ((with_reducible show zW (Op.store _ _ _)); (refine wpl_store HH 0 rfl rfl rfl rfl rfl rfl rfl rfl ?_; clear HH; intro V HH; simp only [Act.eval, zx, Value.cells, putl, zC, zB] at HH; (try simp only [Act.put, zz]))) | ((with_reducible show zW (Op.box _ _)); refine wpl_box HH rfl rfl rfl ?_; clear HH; intro b V HH; simp only [Act.eval, zx, Value.cells, putl, zC, zB] at HH; (try simp only [Act.put, zz])) | ((with_reducible show zW (Op.alloc _)); refine wpl_alloc HH rfl rfl ?_; clear HH; intro b V HH; simp only [Act.eval, zx, Value.cells, putl, zC, zB] at HH; (try simp only [Act.put, zz])))
  · (refine bodyPost_ret (results_ctt rfl HH 0 rfl rfl rfl) rfl ?_)
    exact ⟨_, rfl, .inl ⟨rfl, (HH.drop rfl).drop rfl⟩⟩
  have hRt := hb1 (by trivial)
  have hI0 := h0 hRt
  have HRT := Lib.hid hRt
  clear hRt hb1 h0
  go_loopw [21] (fun i wr => ∃ (h : Nat) (mn : List (Me Nd)) (cn : Nat) (mo : List (Me Int)) (co slk : Nat) (gone : Int), i = .int .i64 h ∧ MOk mn cn ∧ MOk mo co ∧ I mn slk h ∧ Hp w0 wr (WE K s full n sl (.slice (some ⟨g, 0, none⟩) L.length cap) th2 tx bn bo slk gone :: ⟨bn, mp Nd.v mn cn, true⟩ :: ⟨bo, mp encI mo co, true⟩ :: (Hp.lst HH).tail.tail.tail)) (fun i _ => (tx.a0 + tx.a1 - intOf i).toNat)
  case atStart => exact ⟨0, _, _, mo, co, sl, 0, rfl, begM_ok L, ho, hI0, HH⟩
  case round =>
    clear ho
    obtain ⟨h, mn, cn, mo, co, slk, gone, rfl, hc, ho, hIh, HR2⟩ := hrel
    dsimp only [Hp.lst, List.tail] at HR2
    have HH := HR2
    clear HR2
    have hln := (hI.len _ _ _ hIh).2
    by_cases hh : (h : Int) < tx.a0 + tx.a1
    · have hh3 : (h : Int) ≤ 256 := by omega
      go_wp2_with (first | (go_at_call 143; (with_reducible refine (at_walk HH hc hln _).mono ?_); rintro e9 V ⟨Lh, v, r, rfl, hAt, HSh, HH2⟩; clear HH; have HH := HH2; clear HH2; obtain ⟨a8, c8, rfl⟩ := HSh.form; (try simp only [Act.put, zz])) | ((with_reducible show zX (Op.binOp _ _ _ _ _)); (refine wpl_cmp (p := ?_) rfl rfl rfl ?_ ?_ ?_; rotate_left; (focus (go_simp; with_reducible rfl)); all_goals (intro hq; (try (contradiction)); (try simp only [zw] at hq); (try simp only [Act.put, zz])))))
      obtain ⟨hkn, hkg⟩ := at_facts hc (fun e he => (hI.ok _ _ _ hIh e he).1) hAt
      have hLl : Lh.length ≤ 1000000 := by
        obtain ⟨⟨M, hM⟩, _⟩ := hAt
        have := hM.length_eq
        simp at this
        omega
      by_cases hL0 : Lh.length = 0
      · rcases HSh.2 with ⟨hv, _, hr0⟩ | hx
        rotate_left
        · obtain ⟨g3, cap3, js3, hv, hr0, _⟩ := hx
          subst hr0
          obtain ⟨rfl, rfl⟩ : a8 = some ⟨g3, 0, none⟩ ∧ c8 = cap3 := by simpa using hv
          go_loopw [28] (fun i wr => i = .int .i64 0 ∧ Hp w0 wr (Hp.lst HH)) (fun _ _ => 0)
          case atStart => exact ⟨rfl, HH⟩
          case round =>
            obtain ⟨rfl, HR2⟩ := hrel
            dsimp only [Hp.lst] at HR2
            have HH := HR2
            clear HR2
            go_wp2_with ((with_reducible show zX (Op.binOp _ _ _ _ _)); (refine wpl_cmp (p := ?_) rfl rfl rfl ?_ ?_ ?_; rotate_left; (focus (go_simp; with_reducible rfl)); all_goals (intro hq; (try (contradiction)); (try simp only [zw] at hq); (try simp only [Act.put, zz]))))
            exact ⟨⟨h + 1, _, _, _, _, _, _, by push_cast; rfl, hc, ho, hI.next _ _ _ hIh, HH.lose 3 rfl rfl⟩, by simp [intOf]; omega⟩
        subst hr0
        obtain ⟨rfl, rfl⟩ : a8 = none ∧ c8 = 0 := by simpa [hL0] using hv
        go_loopw [28] (fun i wr => i = .int .i64 0 ∧ Hp w0 wr (Hp.lst HH)) (fun _ _ => 0)
        case atStart => exact ⟨rfl, HH⟩
        case round =>
          obtain ⟨rfl, HR2⟩ := hrel
          dsimp only [Hp.lst] at HR2
          have HH := HR2
          clear HR2
          go_wp2_with ((with_reducible show zX (Op.binOp _ _ _ _ _)); (refine wpl_cmp (p := ?_) rfl rfl rfl ?_ ?_ ?_; rotate_left; (focus (go_simp; with_reducible rfl)); all_goals (intro hq; (try (contradiction)); (try simp only [zw] at hq); (try simp only [Act.put, zz]))))
          exact ⟨⟨h + 1, _, _, _, _, _, _, by push_cast; rfl, hc, ho, hI.next _ _ _ hIh, HH⟩, by simp [intOf]; omega⟩
      · obtain ⟨g3, cap3, js3, hv, hr0, _⟩ := HSh.some hL0
        subst hr0
        obtain ⟨rfl, rfl⟩ : a8 = some ⟨g3, 0, none⟩ ∧ c8 = cap3 := by simpa using hv
        clear hv
        simp only [List.cons_append, List.nil_append] at HH
        go_loopw [28] (fun i wr => ∃ (k : Nat) (mn : List (Me Nd)) (cn : Nat) (mo : List (Me Int)) (co slk : Nat) (gone : Int), k ≤ Lh.length ∧ i = .int .i64 k ∧ MOk mn cn ∧ MOk mo co ∧ I mn slk h ∧ (∀ y ∈ Lh.drop k, mget mn y.p = some y) ∧ Hp w0 wr (WE K s full n sl (.slice (some ⟨g, 0, none⟩) L.length cap) th2 tx bn bo slk gone :: ⟨bn, mp Nd.v mn cn, true⟩ :: ⟨bo, mp encI mo co, true⟩ :: (Hp.lst HH).tail.tail.tail)) (fun i _ => ((Lh.length : Int) - intOf i).toNat)
        case atStart => exact ⟨0, mn, cn, mo, co, slk, gone, by omega, rfl, hc, ho, hIh, hkg, HH⟩
        case round =>
          clear hc ho hIh hkg hln
          obtain ⟨k, mn, cn, mo, co, slk, gone, hk0, rfl, hc, ho, hIh, hkg, HR2⟩ := hrel
          dsimp only [Hp.lst, List.tail] at HR2
          have HH := HR2
          clear HR2
          by_cases hk : k < Lh.length
          · have hk2 : (k : Int) < (Lh.length : Int) := by omega
            rw [drop_cons hk] at hkg
            have hxm := hkg _ (List.mem_cons_self ..)
            have hx2 := hAt.2 _ (List.getElem_mem hk)
            obtain ⟨e, hem, hep, hev⟩ := mem_of_mget hxm
            have hxo : Lh[k].p.ok := by have := (hI.ok _ _ _ hIh e hem).2.1; rwa [hep] at this
            have hxr : RB s Lh[k].p = true := by have := (hI.ok _ _ _ hIh e hem).2.2; rwa [hep] at this
            obtain ⟨hP, huo, hur, hua⟩ := hpar _ hxo hxr hx2.2
            have hA1 := hS.pos _ hxr
            have hA2 := hS.pos _ hur
            have hgd := hI.sum _ _ _ hIh e hem
            rw [hev] at hgd
            have hug : ∀ u, mget (mdel mn Lh[k].p) (upP s Lh[k].p) = some u → u.g + Lh[k].g < 18446744073709551616 := fun u hu => by
              rw [mget_del hc] at hu
              split at hu
              · cases hu
              · obtain ⟨e', he', _, rfl⟩ := mem_of_mget hu
                have := hI.sum _ _ _ hIh e' he'
                omega
            have hgd2 : Lh[k].g + Lh[k].d < 18446744073709551616 := by omega
            have hId := hdrop _ cn _ _ _ hc hIh hxm hx2.1 hx2.2
            have hcd := dropM_ok hc Lh[k] (upP s Lh[k].p) sl
            have hkg2 : ∀ y ∈ Lh.drop (k + 1), mget (dropM mn cn Lh[k] (upP s Lh[k].p) sl).1 y.p = some y := fun y hy => by
              have hyk := hkg y (List.mem_cons_of_mem _ hy)
              have hyl : y ∈ Lh := List.mem_of_mem_drop hy
              rw [dropM_get hc, hyk]
              · intro he
                have h1 := hkn
                have h2 : Lh = Lh.take k ++ Lh[k] :: Lh.drop (k + 1) := by rw [← drop_cons hk, List.take_append_drop]
                rw [h2, List.map_append, List.map_cons, List.nodup_append] at h1
                exact (List.nodup_cons.1 h1.2.1).1 (List.mem_map.2 ⟨y, hy, he⟩)
              · intro he
                have h1 := (hAt.2 y hyl).1
                rw [he, hua, hx2.1] at h1
                omega
            clear hx2 hep hev hem hur hua hgd hxr hkg hxm
            generalize upP s Lh[k].p = up at *
            go_wp2_with (first | ((with_reducible show zW (Op.indexAddr 167 _ _)); refine wpl_valu rfl (run_idx167 (p := k) rfl rfl rfl (by omega) _) ?_; (try simp only [Act.put, zz])) | ((with_reducible show zW (Op.load 176 _)); (refine wpl_load HH 3 rfl rfl rfl rfl (nrow_get Lh k _ hk) ?_); (try simp only [Act.put, zz])) | (go_at_call 144; have H9 := (((HH.front 3 rfl).front 3 rfl).front 3 rfl); simp only [List.eraseIdx] at H9; (with_reducible refine (drop_walk H9 ho Lh[k] up hxo huo hA1 hA2 hP hgd2 hug).mono ?_); clear H9; rintro e9 V ⟨rfl, mo2, co2, gone2, ho2, HH2⟩; clear HH ho; have HH := HH2; clear HH2; have ho := ho2; clear ho2; (try simp only [Act.put, zz])) | ((with_reducible show zX (Op.load _ _)); (refine wpl_load HH 0 rfl rfl rfl rfl rfl ?_; (try simp only [Act.put, zz]))) | ((with_reducible show zX (Op.binOp _ _ _ _ _)); (refine wpl_cmp (p := ?_) rfl rfl rfl ?_ ?_ ?_; rotate_left; (focus (go_simp; with_reducible rfl)); all_goals (intro hq; (try (contradiction)); (try simp only [zw] at hq); (try simp only [Act.put, zz])))) | ((with_reducible show zW (Op.store _ _ _)); (refine wpl_store HH 0 rfl rfl rfl rfl rfl rfl rfl rfl ?_; clear HH; intro V HH; simp only [Act.eval, zx, Value.cells, putl, zC, zB] at HH; (try simp only [Act.put, zz]))) | ((with_reducible show zW (Op.alloc _)); refine wpl_alloc HH rfl rfl ?_; clear HH; intro b V HH; simp only [Act.eval, zx, Value.cells, putl, zC, zB] at HH; (try simp only [Act.put, zz])))
            exact ⟨⟨k + 1, _, _, _, _, _, _, by omega, by push_cast; rfl, hcd, ho, hId, hkg2, HH.lose 3 rfl rfl⟩, by simp [intOf]; omega⟩
          · have hk2 : ¬ (k : Int) < (Lh.length : Int) := by omega
            go_wp2_with ((with_reducible show zX (Op.binOp _ _ _ _ _)); (refine wpl_cmp (p := ?_) rfl rfl rfl ?_ ?_ ?_; rotate_left; (focus (go_simp; with_reducible rfl)); all_goals (intro hq; (try (contradiction)); (try simp only [zw] at hq); (try simp only [Act.put, zz]))))
            exact ⟨⟨h + 1, _, _, _, _, _, _, by push_cast; rfl, hc, ho, hI.next _ _ _ hIh, HH.lose 3 rfl rfl⟩, by simp [intOf]; omega⟩
    · have hne := (hI.len _ _ _ hIh).1
      have hne2 : mn.length ≠ 0 := fun h => hne (List.eq_nil_of_length_eq_zero h)
      go_wp2_with (first | (go_at_call 145; (with_reducible refine (end_walk HH ⟨_, _, _, rfl⟩ hc hne hln).mono ?_); rintro e9 V ⟨L2, v, r, hp2, rfl, HS2, HH2⟩; obtain ⟨g5, cap5, js5, rfl, rfl, hx1⟩ := HS2.some (by rw [hp2.length_eq, List.length_map]; exact hne2); clear HH; have HH := HH2; clear HH2; (try simp only [List.cons_append, List.nil_append] at HH); (try simp only [Act.put, zz])) | ((with_reducible show stepQ _ _ _ _ _ _ _); refine stepQ_on HH (by (exact fun V h => (((((h.lose 1 rfl rfl).lose 1 rfl rfl).lose 1 rfl rfl).lose 1 rfl rfl).lose 1 rfl rfl).lose 1 rfl rfl)) ?_; clear HH) | ((with_reducible show wpS _ _ _ _ (_ :: _) _ _); refine wpS_step rfl (fun V HH => ?_)) | ((with_reducible show wpS _ _ _ _ _ _ _); refine wpS_nil ?_; intro V HH; (try dsimp only at HH); (try simp only [pick, zy]); (try simp only [Act.put, zz])) | ((with_reducible show zX (Op.binOp _ _ _ _ _)); (refine wpl_cmp (p := ?_) rfl rfl rfl ?_ ?_ ?_; rotate_left; (focus (go_simp; with_reducible rfl)); all_goals (intro hq; (try (contradiction)); (try simp only [zw] at hq); (try simp only [Act.put, zz])))) | ((with_reducible show zW (Op.store _ _ _)); (refine wpl_store HH 5 rfl rfl rfl rfl rfl rfl rfl rfl ?_; clear HH; intro V HH; simp only [Act.eval, zx, Value.cells, putl, zC, zB] at HH; (try simp only [Act.put, zz]))) | ((with_reducible show Code.wp _ (Code.region _ _ true) _ _ _); (refine wp_float_Hp (id := 13) [0, 2, 3, 4, 5] [1, 6] [7, 8] (WE K s full n sl (.slice (some ⟨g, 0, none⟩) L.length cap) th2 tx bn bo slk gone :: l) (by kernel_rfl) HH (by (exact fun V h => ((((h.lose 1 rfl rfl).lose 1 rfl rfl).lose 1 rfl rfl).lose 1 rfl rfl).lose 1 rfl rfl)) ?_; clear HH; (try dsimp only); (try simp only [pick, zy]); repeat' (first | ((with_reducible show wpB _ _ _ _ [] _); refine wpB_nil ?_; (try simp only [pick, zy]); (try simp only [Act.put, zz])) | (((with_reducible show zU _); (first | ((with_reducible show zT (Op.move _)); refine wpB_move rfl rfl rfl ?_) | ((with_reducible show zT (Op.load _ _)); (refine wpB_load 0 rfl rfl rfl rfl rfl ?_)) | (refine wpB_val (v := ?_) rfl ?_ ?_; rotate_left; (focus (intro w9 hS9; go_simp; all_goals (with_reducible rfl)))))); all_goals (try simp only [Act.put, zz, Act.eval, zx]))))))
      (refine bodyPost_ret (results_ctt rfl HH 5 rfl rfl rfl) rfl ?_)
      exact ⟨_, rfl, .inr ⟨HRT.out, mn, cn, slk, h, L2, _, _, gone, hIh, hc, hp2, rfl, HS2, (((((HH.drop rfl).drop rfl).lose 1 rfl rfl).lose 2 rfl rfl).lose 2 rfl rfl)⟩⟩

end Go.Proofs.YtcbahkfbdlhabaaGreatDoor
namespace Go.Proofs.YtcbahkfbdlhabaaGreatDoor
set_option linter.unusedVariables false
set_option linter.unusedSimpArgs false
open Go.RowKit
attribute [local go_sem] index24_0 index24_1 field34_0 field34_1
attribute [local irreducible] wpList Code.wp wpB

/-- An engine's block. -/
abbrev GE (G T : Nat) (kk most : Int) : En := ⟨G, .cells #[.pointer (some ⟨T, 0, none⟩), .int .i64 kk, .int .i64 most] 75 (0, 0), true⟩

set_option maxRecDepth 100000 in
set_option maxHeartbeats 4000000 in
theorem gmade (w : World) {G T : Nat} {kk most : Int} (hG : w.heap[G]? = some (.cells #[.pointer (some ⟨T, 0, none⟩), .int .i64 kk, .int .i64 most] 75 (0, 0))) : Calls Tryz.prog 121 #[.pointer (some ⟨G, 0, none⟩)] w fun e w' => e = .returned (.bool true) ∧ Below w.heap.size w w' := by
  have HH : Hp w w [⟨G, .cells #[.pointer (some ⟨T, 0, none⟩), .int .i64 kk, .int .i64 most] 75 (0, 0), false⟩] := Hp.start ⟨hG, trivial⟩ (by simp) rfl
  have hGL := Lib.hid hG
  clear hG
  go_enter Tryz.func121, Tryz.ntmps121
  go_wp2_with (first | ((with_reducible show zX (Op.binOp _ _ _ _ _)); (refine wpl_cmp (p := ?_) rfl rfl rfl ?_ ?_ ?_; rotate_left; (focus (go_simp; with_reducible rfl)); all_goals (intro hq; (try (contradiction)); (try simp only [zw] at hq); (try simp only [Act.put, zz])))) | ((with_reducible show zY (Op.load _ _)); (refine wpl_load HH 0 rfl rfl rfl (by simp only [Region.wanted, yielded, zy, Option.bind_some]; decide) rfl ?_; (try simp only [Act.put, zz]))) | ((with_reducible show zY (Op.binOp _ _ _ _ _)); (refine wpl_cmp (p := ?_) rfl rfl (by simp only [Region.wanted, yielded, zy, Option.bind_some]; decide) ?_ ?_ ?_; rotate_left; (focus (go_simp; with_reducible rfl)); all_goals (intro hq; (try (contradiction)); (try simp only [zw] at hq); (try simp only [Act.put, zz])))))
  all_goals (go_ret; refine ⟨rfl, Hp.back (l := []) (r := [_]) HH (by intro e he; simp only [List.mem_singleton] at he; subst he; exact hGL.out) rfl⟩)

set_option maxRecDepth 100000 in
theorem run_quo29 {ρ : Operand → Value} {o : Oper} {x y : Operand} {a b : Int} {q : Nat} (hop : o.op = .binOp .quo 29 x y 29) (hx : ρ x = .int .u64 a) (hy : ρ y = .int .u64 b) (hb : b ≠ 0) (hq : IntKind.u64.wrap (a.tdiv b) = (q : Int)) (w : World) : (execOp ρ o).run Tryz.prog w = .ok (.value (.int .u64 (q : Int))) w := by
  unfold execOp
  simp only [hop, hx, hy]
  have hb2 : (b == 0) = false := by simp [hb]
  simp [go_sem, hb, hb2, hq]

/-- What pressed yields. -/
def PdR (w0 : World) (s : Sp) (full : Bool) (n : Nat) (I : List (Me Nd) → Nat → Nat → Prop) (l : List En) (v : Value) (w' : World) : Prop :=
  (v = .pointer none ∧ Hp w0 w' l) ∨ ∃ (T2 bm2 : Nat) (mn : List (Me Nd)) (cn slk h : Nat) (L' : List Nd), v = .pointer (some ⟨T2, 0, none⟩) ∧ I mn slk h ∧ MOk mn cn ∧ L'.Perm (mn.map Me.v) ∧ RtF s n slk L' ∧ Hp w0 w' (TE T2 s full n slk bm2 :: ⟨bm2, mp encG (ofM s L').1 (ofM s L').2, true⟩ :: l)

set_option maxRecDepth 100000 in
set_option maxHeartbeats 4000000 in
theorem pressed_walk {w0 w : World} {l : List En} {G T n sl bm c : Nat} {kk most : Int} {s : Sp} {full : Bool} {mm : List (Me (Nat × Nat))} (HH : Hp w0 w (GE G T kk most :: TE T s full n sl bm :: ⟨bm, mp encG mm c, true⟩ :: l)) (hc : MOk mm c) (hne : mm ≠ []) (hlen : mm.length ≤ 1000000) (hmo : ∀ x ∈ mm, x.p.ok) (hnb : n ≤ 4611686018427387904) (hgb : ∀ x ∈ mm, x.v.1 ≤ 4611686018427387904) (hS : PSp s) {I : List (Me Nd) → Nat → Nat → Prop} (hI : PInv s sl I) (h0 : ∀ L : List Nd, L.Perm (mm.map ndOf) → RtF s n sl L → I (begM L).1 sl 0) (hkk : 1 ≤ kk) (hk2 : kk ≤ 200) (wv : Nat) (hw : wv ≤ 4611686018427387904) :
    Calls Tryz.prog 127 #[.pointer (some ⟨G, 0, none⟩), .int .u64 (wv : Int)] w fun e w' => ∃ v, e = .returned v ∧ PdR w0 s full n I (GE G T kk most :: TE T s full n sl bm :: ⟨bm, mp encG mm c, true⟩ :: l) v w' := by
  have hne2 : mm.length ≠ 0 := fun h => hne (List.eq_nil_of_length_eq_zero h)
  go_enter Tryz.func127, Tryz.ntmps127
  go_upto_region 2 with (first | (go_at_call 124; have H9 := ((HH.front 2 rfl).front 2 rfl); simp only [List.eraseIdx] at H9; (with_reducible refine (state_walk H9 hc hne hlen).mono ?_); clear H9; rintro e9 V ⟨L, v, r, hpm, rfl, HS, HH2⟩; obtain ⟨g, cap, js, rfl, rfl, hx1⟩ := HS.some (by rw [hpm.length_eq, List.length_map]; exact hne2); clear HH; have HH := HH2; clear HH2; (try simp only [List.cons_append, List.nil_append] at HH); (try simp only [Act.put, zz])) | ((with_reducible show zX (Op.load _ _)); (refine wpl_load HH 0 rfl rfl rfl rfl rfl ?_; (try simp only [Act.put, zz]))) | ((with_reducible show zW (Op.store _ _ _)); (refine wpl_store HH 0 rfl rfl rfl rfl rfl rfl rfl rfl ?_; clear HH; intro V HH; simp only [Act.eval, zx, Value.cells, putl, zC, zB] at HH; (try simp only [Act.put, zz]))) | ((with_reducible show zW (Op.alloc _)); refine wpl_alloc HH rfl rfl ?_; clear HH; intro b V HH; simp only [Act.eval, zx, Value.cells, putl, zC, zB] at HH; (try simp only [Act.put, zz])))
  have HPM := Lib.hid hpm
  have HI0 := Lib.hid (h0 L hpm)
  have hLok : ∀ x ∈ L, x.p.ok := fun x hx => by
    obtain ⟨y, hy, rfl⟩ := List.mem_map.1 (hpm.subset hx)
    exact hmo y hy
  have hLg : ∀ x ∈ L, x.g < 18446744073709551616 := fun x hx => by
    obtain ⟨y, hy, rfl⟩ := List.mem_map.1 (hpm.subset hx)
    have := hgb y hy
    show y.v.1 < _
    omega
  have hLl : L.length ≤ 1000000 := by rw [hpm.length_eq, List.length_map]; exact hlen
  have hnb2 : n < 18446744073709551616 := by omega
  clear hpm h0
  have HH2 := (((HH.front 3 rfl).front 4 rfl).front 2 rfl)
  clear HH
  have HH := HH2
  clear HH2
  simp only [List.eraseIdx] at HH
  obtain ⟨kn, rfl⟩ : ∃ kn : Nat, kk = (kn : Int) := ⟨kk.toNat, by omega⟩
  have w1 : IntKind.u64.wrap ((n : Int) + (wv : Int)) = (n : Int) + (wv : Int) := IntWalk.u64_in _ (by omega)
  have w2 : IntKind.u64.wrap (kn : Int) = (kn : Int) := IntWalk.u64_in _ (by omega)
  have hkz : ¬ (kn : Int) = 0 := by omega
  have hkz2 : ((kn : Int) == 0) = false := by simp; omega
  obtain ⟨q, hq0⟩ : ∃ q : Nat, ((n : Int) + (wv : Int)).tdiv (kn : Int) = (q : Int) := ⟨(n + wv) / kn, by rw [← Int.natCast_add, Int.ofNat_tdiv]⟩
  have w3 : IntKind.u64.wrap (q : Int) = (q : Int) := by
    refine IntWalk.u64_in _ ?_
    have h1 : ((n + wv) / kn : Nat) ≤ n + wv := Nat.div_le_self _ _
    have h2 : (q : Int) = (((n + wv) / kn : Nat) : Int) := by rw [← hq0, ← Int.natCast_add, Int.ofNat_tdiv]
    omega
  go_cut [6, 7, 8] from 11 to 31 (fun v6 v7 v8 wx => ∃ b6 : Nat, v6 = .pointer (some ⟨b6, 0, none⟩) ∧ ((Hp w0 wx (⟨b6, .cells #[.int .i64 0, .int .i64 0, .int .i64 0, .int .i64 0, .int .i64 0, .int .i64 0, .int .i64 0, .bool false, .int .u64 0, .int .u64 0, .slice none 0 0] 169 (0, 0), true⟩ :: GE G T kn most :: TE T s full n sl bm :: ⟨bm, mp encG mm c, true⟩ :: l)) ∨
    (∃ (mn : List (Me Nd)) (cn slk h : Nat) (L' : List Nd) (g2 cap2 : Nat) (js2 : List Value), I mn slk h ∧ MOk mn cn ∧ L'.Perm (mn.map Me.v) ∧ Hp w0 wx (⟨b6, .cells #[.int .i64 s.n, .int .i64 s.d0.k, .int .i64 s.d0.s, .int .i64 s.d0.t, .int .i64 s.d1.k, .int .i64 s.d1.s, .int .i64 s.d1.t, .bool full, .int .u64 (n : Int), .int .u64 (slk : Int), .slice (some ⟨g2, 0, none⟩) L'.length cap2] 169 (0, 0), true⟩ :: ⟨g2, .cells (nrow L' ++ js2).toArray 176 (0, 0), true⟩ :: GE G T kn most :: TE T s full n sl bm :: ⟨bm, mp encG mm c, true⟩ :: l))))
  case first =>
    go_wp2_with (first | (go_at_call 134; (first | (have H9 := (HH.front 2 rfl); simp only [List.eraseIdx] at H9; (with_reducible refine (press_walk H9 hLok hLl hnb2 hLg hS hI HI0.out _).mono ?_); clear H9; rintro e9 V ⟨v, rfl, hpr⟩; clear HH; rcases hpr with ⟨rfl, HH2⟩ | ⟨hrt, mn, cn, slk, h, L', v', r, gone, hIm, hcm, hpm', rfl, HS2, HH2⟩; rotate_left; (focus (obtain ⟨g2, cap2, js2, rfl, rfl, hy1⟩ := HS2.some (by rw [hpm'.length_eq, List.length_map]; exact fun h => (hI.len _ _ _ hIm).1 (List.eq_nil_of_length_eq_zero h)); have HRT := Lib.hid hrt; clear hrt; simp only [List.cons_append, List.nil_append] at HH2; have HH := ((HH2.front 3 rfl).front 3 rfl); clear HH2; simp only [List.eraseIdx] at HH; (try simp only [Act.put, zz]))); all_goals (try (have HH := ((HH2.front 2 rfl).front 2 rfl); clear HH2; simp only [List.eraseIdx] at HH; (try simp only [Act.put, zz])))) | (have H9 := (HH.front 3 rfl); simp only [List.eraseIdx] at H9; (with_reducible refine (press_walk H9 hLok hLl hnb2 hLg hS hI HI0.out _).mono ?_); clear H9; rintro e9 V ⟨v, rfl, hpr⟩; clear HH; rcases hpr with ⟨rfl, HH2⟩ | ⟨hrt, mn, cn, slk, h, L', v', r, gone, hIm, hcm, hpm', rfl, HS2, HH2⟩; rotate_left; (focus (obtain ⟨g2, cap2, js2, rfl, rfl, hy1⟩ := HS2.some (by rw [hpm'.length_eq, List.length_map]; exact fun h => (hI.len _ _ _ hIm).1 (List.eq_nil_of_length_eq_zero h)); have HRT := Lib.hid hrt; clear hrt; simp only [List.cons_append, List.nil_append] at HH2; have HH := ((HH2.front 4 rfl).front 4 rfl); clear HH2; simp only [List.eraseIdx] at HH; (try simp only [Act.put, zz]))); all_goals (try (have HH := ((HH2.front 3 rfl).front 3 rfl); clear HH2; simp only [List.eraseIdx] at HH; (try simp only [Act.put, zz])))))) | ((with_reducible show Code.wp _ (Code.region _ _ true) _ _ _); refine wp_segs_Hp (id := 2) [([0, 1, 2, 3, 4, 5, 6, 7, 8, 9, 10], 11, true), ([12, 13, 14, 15], 17, false), ([], 18, false), ([], 19, false)] 16 (⟨_, .cells #[.int .i64 s.n, .int .i64 s.d0.k, .int .i64 s.d0.s, .int .i64 s.d0.t, .int .i64 s.d1.k, .int .i64 s.d1.s, .int .i64 s.d1.t, .bool full, .int .u64 (n : Int), .int .u64 (sl : Int), .slice (some ⟨g, 0, none⟩) L.length cap] 169 (0, 0), true⟩ :: GE G T kn most :: l) (by simp only [zy]; rfl) (by kernel_rfl) HH (by (exact fun V h => (((h.lose 2 rfl rfl).lose 2 rfl rfl).lose 2 rfl rfl))) ?_; clear HH; (try dsimp only); (try simp only [pickG, pickS, pick, zy])) | ((first | ((with_reducible show wpG _ _ _ _ _ (_ :: _) _ _); refine wpG_seg ?_) | ((with_reducible show wpH _ _ _ _ (_ :: _) _ _); refine wpH_seg ?_)); repeat' (first | ((with_reducible show wpB _ _ _ _ [] _); refine wpB_nil ?_; (first | refine effG_step rfl rfl (fun V HH => ?_) (fun V HH => ?_) | refine effG_only rfl (fun V HH => ?_) | refine effH_step rfl (fun V HH => ?_)); all_goals (try simp only [unf, List.map_cons, List.map_nil]); all_goals (try simp only [Act.put, zz])) | (((with_reducible show zU _); (first | ((with_reducible show zT (Op.move _)); refine wpB_move rfl rfl rfl ?_) | ((with_reducible show zU (Op.binOp BinOp.quo 29 _ _ _)); refine wpB_val rfl (fun V _ => run_quo29 (q := q) rfl rfl rfl hkz (by rw [hq0]; exact w3) V) ?_) | ((with_reducible show zT (Op.load _ _)); (first | refine wpB_load 0 rfl rfl rfl rfl rfl ?_ | refine wpB_load 1 rfl rfl rfl rfl rfl ?_)) | (refine wpB_val (v := ?_) rfl ?_ ?_; rotate_left; (focus (intro w9 hS9; go_simp; all_goals (with_reducible rfl)))))); all_goals (try simp only [Act.put, zz, Act.eval, zx])))) | ((with_reducible show wpH _ _ _ _ [] _ _); refine wpH_nil ?_; intro V HH; (try dsimp only at HH); (try simp only [Act.put, zz])) | ((first | ((with_reducible show stepG _ _ _ _ _ _ _ _); refine stepG_on HH (by (first | exact fun V h => (((h.lose 2 rfl rfl).lose 2 rfl rfl).lose 2 rfl rfl) | exact fun V h => ((((h.lose 2 rfl rfl).lose 2 rfl rfl).lose 2 rfl rfl).lose 2 rfl rfl))) ?_; clear HH) | ((with_reducible show stepH _ _ _ _ _ _ _); refine stepH_on HH (by (first | exact fun V h => ((((h.drop rfl).lose 2 rfl rfl).lose 2 rfl rfl).lose 2 rfl rfl) | exact fun V h => ((((h.lose 2 rfl rfl).lose 2 rfl rfl).lose 2 rfl rfl).lose 2 rfl rfl) | exact fun V h => (((((h.drop rfl).lose 2 rfl rfl).lose 2 rfl rfl).lose 2 rfl rfl).lose 2 rfl rfl) | exact fun V h => (((((h.lose 2 rfl rfl).lose 2 rfl rfl).lose 2 rfl rfl).lose 2 rfl rfl).lose 2 rfl rfl))) ?_; clear HH))) | ((with_reducible show zW (Op.store _ _ _)); (first | (refine wpl_store HH 0 rfl rfl rfl rfl rfl rfl rfl rfl ?_; clear HH; intro V HH; simp only [Act.eval, zx, Value.cells, putl, zC, zB] at HH; (try simp only [Act.put, zz])) | (refine wpl_store HH 3 rfl rfl rfl rfl rfl rfl rfl rfl ?_; clear HH; intro V HH; simp only [Act.eval, zx, Value.cells, putl, zC, zB] at HH; (try simp only [Act.put, zz])) | (refine wpl_store HH 4 rfl rfl rfl rfl rfl rfl rfl rfl ?_; clear HH; intro V HH; simp only [Act.eval, zx, Value.cells, putl, zC, zB] at HH; (try simp only [Act.put, zz])))) | ((with_reducible show zW (Op.alloc _)); refine wpl_alloc HH rfl rfl ?_; clear HH; intro b V HH; simp only [Act.eval, zx, Value.cells, putl, zC, zB] at HH; (try simp only [Act.put, zz])))
    all_goals (go_meet; first | exact ⟨_, rfl, .inr ⟨mn, cn, slk, h, L', g2, cap2, js2, hIm, hcm, hpm', (((HH.lose 1 rfl rfl).lose 3 rfl rfl).front 2 rfl).front 1 rfl⟩⟩ | exact ⟨_, rfl, .inl ((HH.lose 1 rfl rfl).lose 2 rfl rfl)⟩ | exact ⟨_, rfl, .inr ⟨mn, cn, slk, h, L', g2, cap2, js2, hIm, hcm, hpm', (((HH.drop rfl).lose 2 rfl rfl).front 1 rfl).front 2 rfl⟩⟩ | exact ⟨_, rfl, .inl (((HH.drop rfl).lose 1 rfl rfl).front 1 rfl)⟩)
  case rest =>
    clear HH HI0 HPM hLok hLg hLl hq0 w3
    obtain ⟨b6, rfl, HH | ⟨mn, cn, slk, h, L', g2, cap2, js2, hIm, hcm, hpm', HH⟩⟩ := hcut
    · go_wp2_with (first | (go_at_call 135; refine (of_no _ (s := ⟨0, ⟨0, 0, 0⟩, ⟨0, 0, 0⟩⟩) (full := false) (n := 0) (sl := 0) (by decide)).mono ?_; rintro e9 V ⟨rfl, hb⟩; replace HH := HH.next hb; clear hb; (try simp only [Act.put, zz])) | ((with_reducible show zX (Op.load _ _)); (refine wpl_load HH 0 rfl rfl rfl rfl rfl ?_; (try simp only [Act.put, zz]))))
      go_ret
      exact ⟨_, rfl, .inl ⟨rfl, HH.drop rfl⟩⟩
    · have hLok : ∀ x ∈ L', x.p.ok := fun x hx => by
        obtain ⟨e, he, rfl⟩ := List.mem_map.1 (hpm'.subset hx)
        have := hI.ok _ _ _ hIm e he
        rw [this.1]
        exact this.2.1
      have hLg : ∀ x ∈ L', x.g < 18446744073709551616 := fun x hx => by
        obtain ⟨e, he, rfl⟩ := List.mem_map.1 (hpm'.subset hx)
        have := hI.sum _ _ _ hIm e he
        omega
      have hLl : L'.length ≤ 1000000 := by rw [hpm'.length_eq, List.length_map]; exact (hI.len _ _ _ hIm).2
      go_wp2_with (first | (go_at_call 135; have H9 := HH.front 1 rfl; simp only [List.eraseIdx] at H9; (with_reducible refine (of_walk H9 hLok hLl hnb2 hLg hS.pos).mono ?_); clear H9; rintro e9 V ⟨v, rfl, hof⟩; clear HH; rcases hof with ⟨rfl, HH2⟩ | ⟨hrt, T2, bm2, rfl, HH2⟩; rotate_left; (focus (have HRT := Lib.hid hrt; clear hrt; have HH := HH2; clear HH2; (try simp only [Act.put, zz]))); all_goals (try (have HH := HH2; clear HH2; (try simp only [Act.put, zz])))) | ((with_reducible show zX (Op.load _ _)); (refine wpl_load HH 0 rfl rfl rfl rfl rfl ?_; (try simp only [Act.put, zz]))))
      · go_ret
        exact ⟨_, rfl, .inr ⟨T2, bm2, mn, cn, slk, h, L', rfl, hIm, hcm, hpm', HRT.out, (HH.lose 2 rfl rfl).lose 2 rfl rfl⟩⟩
      · go_ret
        exact ⟨_, rfl, .inl ⟨rfl, (HH.drop rfl).drop rfl⟩⟩

end Go.Proofs.YtcbahkfbdlhabaaGreatDoor
