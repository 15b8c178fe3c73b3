/- The walk of audit.Path. -/
import Derived.Test.YtjdffhlbiiefaaaDoorRevW
namespace Go.Proofs.YtjdffhlbiiefaaaDoor
set_option linter.unusedVariables false
open Go.RowKit Go.Mny Aud
def pathT (ts : List Tot) (i : Nat) : List Tot := Aud.path ndT ndE ts i
def PathP (w : World) (ps : List Tot) (e : Ending) (w' : World) : Prop := ∃ A m c, e = .returned (.tuple #[.slice A m c, .nilIface]) ∧ ps.length = m ∧ m ≤ c ∧ Own w' w.heap.size 38 33 A m c (tcs ps) ∧ Below w.heap.size w w'
def lenV : Value → Nat
  | .slice _ n _ => n
  | _ => 0
theorem path_len_le (ts : List Tot) (i : Nat) : (pathT ts i).length ≤ ts.length - 1 := by
  unfold pathT
  rw [path_len]; exact sides_len i ts.length
theorem tcs_snoc (ts : List Tot) (t : Tot) : tcs (ts ++ [t]) = tcs ts ++ tc t := by simp [tcs]
theorem tcs_one (ts : List Tot) : ∀ u ∈ tcs ts, u.oneCell' = true := by
  intro u hu
  obtain ⟨l, hl, hu⟩ := List.mem_flatten.1 hu
  obtain ⟨t, _, rfl⟩ := List.mem_map.1 hl
  exact tc_one t u hu
theorem oks_snoc {ts : List Tot} (h : Oks ts) {t : Tot} (ht : Ok t) : Oks (ts ++ [t]) := fun x hx => by
  rcases List.mem_append.1 hx with hx | hx
  · exact h x hx
  · rw [List.mem_singleton.1 hx]; exact ht
/-- one more total is put behind those that there are -/
theorem app_tot {w : World} {ops : Array Oper} {rest : List Oper} {o : Oper} {a : Act} {Q : Exit → Act → World → Prop} (hgd : o.guard = none)
    (x y : Operand) (ho : o.op = .call { callee := .builtin .append, args := #[x, y], argTypes := #[36, 36] })
    {B : Nat} {A : Option Addr} {n c : Nat} {ts : List Tot} (hx : a.eval x = .slice A n c) (hown : Own w B 38 33 A n c (tcs ts))
    {g : Nat} {t : Tot} (hy : a.eval y = .slice (some ⟨g, 0, none⟩) 1 1) (hb : Blk w g 38 (tc t).toArray) (ht : t.d.length = 32) (hn : n ≤ 100000) (hB : B ≤ w.heap.size)
    (k : ∀ A2 c2 w2, Own w2 B 38 33 A2 (n + 1) c2 (tcs (ts ++ [t])) → w.grownBy w2 (at_ A) → wpList Tryd.prog ops Q rest (a.put o.dst (.slice A2 (n + 1) c2)) w2) :
    wpList Tryd.prog ops Q (o :: rest) a w := by
  refine app_step totsE hgd x y ho hx hown (D := g + 1) (A' := some ⟨g, 0, none⟩) (m := 1) (c' := 1) (news := tc t) hy ?_ (tc_one t) (by simp [maxLen]; omega) (by omega) hB ?_
  · refine ⟨by rw [tc_len ht], fun _ => ⟨g, 0, rfl, by omega, fun j hj => ?_⟩⟩
    rw [Nat.zero_add, hb.cell]; simp
  · intro A2 c2 w2 o2 g2 _
    exact k A2 c2 w2 (by rw [tcs_snoc]; exact o2) g2
set_option maxHeartbeats 4000000 in
set_option maxRecDepth 100000 in
theorem path_any (ts : List Tot) (A : Option Addr) (n c D i : Nat) (w : World) (hn : n ≤ 256) (hc : n ≤ c) (hi : i < n) (ht : Tots w D A n ts) (hD : D ≤ w.heap.size) (hL : Laid w) (h0 : 0 < w.heap.size) :
    Calls Tryd.prog 7 #[.slice A n c, .int .i64 (i : Int)] w (PathP w (pathT ts i).reverse) := by
  have HT := hid ht; have HL := hid hL
  have PL : Hid ((pathT ts i).length ≤ 255) := by
    show _ ≤ _
    have := path_len_le ts i
    rw [ht.len] at this; omega
  have i1 : (0 : Int) ≤ (i : Int) := by omega
  have i2 : (i : Int) < (n : Int) := by omega
  have j1 : decide ((i : Int) < 0) = false := by simp
  have j2 : decide (n ≤ i) = false := by simp; omega
  clear ht hL
  go_enter Tryd.func7, Tryd.ntmps7
  go_wp2_with fail
  refine (Root_any n ts A c D _ hn hc (unhid HT) hD (unhid HL) h0).mono ?_
  rintro e w1 ⟨rfl, hb1⟩
  have E1 := hid hb1
  have O1 := hid (rootT_ok (unhid HT).oks)
  clear hb1
  go_wp2_with (with_reducible refine halt_op (some 6) (.alloc _) (fun K hK => ?_))
  refine go_on hK ?_; clear hK
  refine alloc_row _ totZ rfl rfl ?_
  rintro g6 w2 hg6 s2 b2 e2
  refine store_row totT (vs := tc (rootT ts)) rfl (.tmp 6) (.tmp 14) rfl rfl rfl (tc_len (unhid O1).1.2.1) (tc_one _) b2 (by simp [tc, zeroT, bytes, up]) ?_
  intro w3 b3 g3
  have E3 := hid ((unhid E1).trans ((e2.grown g3 (by omega) (fun q hq => by injection hq with hq; omega)).mono (by have := (unhid E1).size; omega)))
  have hlen : (n : Int) ≤ 256 := by omega
  clear b2 e2 hg6 s2 b3 g3 E1
  go_wp2_with fail
  go_loopw [0, 1, 8] (fun v0 v1 v8 wr => ∃ (us : List Tot) (A1 Ao : Option Addr) (m c1 j mo co : Nat) (os : List Tot), m ≤ 256 ∧ m ≤ c1 ∧ j < m ∧ v0 = .slice A1 m c1 ∧ v1 = .int .i64 (j : Int) ∧ v8 = .slice Ao mo co ∧ Hid (Tots wr D A1 m us) ∧ Hid (Own wr w.heap.size 38 33 Ao mo co (tcs os)) ∧ Hid (os.length = mo) ∧ Hid (Oks os) ∧ Hid (os ++ pathT us j = pathT ts i) ∧ Hid (Below w.heap.size w wr)) (fun v0 _ _ _ => lenV v0)
  case atStart => exact ⟨ts, A, none, n, c, i, 0, 0, [], hn, hc, hi, rfl, rfl, rfl, (unhid HT).below ((unhid E3).mono hD), Own.none _ _ _ _, rfl, fun x hx => absurd hx List.not_mem_nil, rfl, E3⟩
  case round =>
    obtain ⟨us, A1, Ao, m, c1, j, mo, co, os, hm, hc1, hj, rfl, rfl, rfl, HU, HO, HM, HK, HS, HB⟩ := hrel
    have hml : mo ≤ 255 := by
      have a := congrArg List.length HS.out
      rw [List.length_append, HM.out] at a
      have := PL.out
      omega
    have hsB := (unhid HB).size
    by_cases h2 : 2 ≤ m
    · have k1 := half_pos m
      have k2 := half_lt h2
      obtain ⟨k, hk⟩ : ∃ k, k = Aud.half m := ⟨_, rfl⟩
      rw [← hk] at k1 k2
      have HQ := hid hk
      have i3 : (1 : Int) < (m : Int) := by omega
      have HUL := (unhid HU).len
      by_cases hjk : j < k
      · have E : Hid (pathT us j = rootT (us.drop k) :: pathT (us.take k) j) := by
          have h := Aud.path_left ndT ndE (ts := us) (i := j) (by rw [HUL]; exact h2) (by rw [HUL, ← hk]; exact hjk)
          rw [HUL, ← hk] at h
          exact h
        have i4 : (j : Int) < (k : Int) := by omega
        clear hk HUL
        go_wp2_with fail
        refine (half_any m _ h2 hm).mono ?_
        rintro e w' ⟨rfl, rfl⟩
        rw [← HQ.out]
        go_wp2_with (with_reducible refine halt_op (some 10) (.alloc _) (fun K hK => ?_))
        refine go_on hK ?_; clear hK
        refine alloc_row _ totZ rfl rfl ?_
        rintro gs w4 hgs s4 b4 e4
        have E4 : Below gs wr w4 := e4
        have B4 := hid b4
        have hgs4 : gs < w4.heap.size := by omega
        have hgw : w.heap.size ≤ gs := by omega
        have hgr : wr.heap.size ≤ gs := by omega
        have HB4 := hid ((unhid HB).trans (E4.mono (by omega)))
        have HU4 := hid ((unhid HU).below (E4.mono (by omega)))
        have HO4 := hid ((unhid HO).below (E4.mono (by omega)) (Nat.le_refl _))
        have hne : Hid (∀ q, at_ Ao = some q → q < gs) := fun q hq => by have := ((unhid HO).from_ q hq).2; omega
        clear b4 e4 hgs s4 E4 HB HU HO
        go_wp2_with (with_reducible refine halt_op (some 40) (.slice _ _ _ _ _) (fun K hK => ?_))
        refine go_on hK ?_; clear hK
        refine slice_step totsE rfl (.tmp 38) (some (.tmp 39)) none rfl rfl (i := k) (j := m) (Bnd.at_ rfl) (Bnd.out _) (unhid HU4).row (by omega) (Nat.le_refl _) hc1 ?_
        intro A2 r2
        have T2 := hid ((unhid HU4).right r2)
        clear r2
        go_wp2_with fail
        refine (root_any (m - k) (us.drop k) A2 (c1 - k) D _ (by omega) (by omega) (unhid T2) (by have := (unhid HB4).size; omega) ((unhid HL).below (unhid HB4) h0) (by have := (unhid HB4).size; omega)).mono ?_
        rintro e w5 ⟨rfl, hb5⟩
        have O2 := hid (rootT_ok (unhid T2).oks)
        have B5 := hid ((unhid B4).below hb5 hgs4)
        have HB5 := hid ((unhid HB4).trans (hb5.mono (by omega)))
        have HU5 := hid ((unhid HU4).below (hb5.mono (by omega)))
        have HO5 := hid ((unhid HO4).below hb5 (Nat.le_refl _))
        have hgs5 : gs < w5.heap.size := by have := hb5.size; omega
        clear hb5 HB4 HU4 HO4 T2 B4
        go_wp2_with (with_reducible refine halt_op none (.store _ _ _) (fun K hK => ?_))
        refine go_on hK ?_; clear hK
        refine store_row totT (vs := tc (rootT (us.drop k))) rfl (.tmp 10) (.tmp 42) rfl rfl rfl (tc_len (unhid O2).1.2.1) (tc_one _) (unhid B5) (by simp [tc, zeroT, bytes, up]) ?_
        intro w6 b6 g6
        have E6 : Below gs w5 w6 := (Below.refl _ _).grown g6 (by omega) (fun q hq => by injection hq with hq; omega)
        have B6 := hid b6
        have HB6 := hid ((unhid HB5).trans (E6.mono hgw))
        have HU6 := hid ((unhid HU5).below (E6.mono (by omega)))
        have HO6 := hid ((unhid HO5).keep (fun q hq => E6.block q (hne.out q hq)))
        clear b6 g6 HB5 HU5 HO5 E6 B5
        go_wp2_with (with_reducible refine halt_op (some 46) (.slice _ _ _ _ _) (fun K hK => ?_))
        refine go_on hK ?_; clear hK
        refine slice_step totsE rfl (.tmp 44) none (some (.tmp 45)) rfl rfl (i := 0) (j := k) (Bnd.out 0) (Bnd.at_ rfl) (unhid HU6).row (Nat.zero_le _) (by omega) hc1 ?_
        intro A3 r3
        have T3 := hid ((unhid HU6).left (by omega) r3)
        rw [Nat.sub_zero, Nat.sub_zero]
        clear r3
        go_wp2_with (with_reducible refine halt_op (some 61) (.load _ _) (fun K hK => ?_))
        refine go_on hK ?_; clear hK
        refine load_row totT rfl (.tmp 10) rfl rfl (unhid B6) (tc_len (unhid O2).1.2.1) ?_
        go_wp2_with (with_reducible refine halt_op (some 62) (.buildSlice _ _ _) (fun K hK => ?_))
        refine go_on hK ?_; clear hK
        refine build1 totsE (by decide) rfl (.tmp 61) rfl (cs := tc (rootT (us.drop k))) rfl (tc_len (unhid O2).1.2.1) ?_
        intro b7
        obtain ⟨w7, hw7⟩ : ∃ W, W = w6.alloc (.cells (tc (rootT (us.drop k))).toArray 38) := ⟨_, rfl⟩
        obtain ⟨g7, hg7⟩ : ∃ g, g = w6.heap.size := ⟨_, rfl⟩
        have E7 : Below w6.heap.size w6 w7 := by rw [hw7]; exact (Below.refl _ _).alloc (Nat.le_refl _) _
        rw [← hw7, ← hg7] at b7
        rw [← hw7, ← hg7]
        have B7 := hid b7
        have HB7 := hid ((unhid HB6).trans (E7.mono (unhid HB6).size))
        have T7 := hid ((unhid T3).below (E7.mono (by have := (unhid HB6).size; omega)))
        have HO7 := hid ((unhid HO6).below E7 (Nat.le_refl _))
        have hs7 := (unhid HB7).size
        clear b7 hw7 hg7 E7 HO6
        go_wp2_with (at_builtin; refine halt_at (fun K hK => ?_))
        refine go_on hK ?_; clear hK
        refine app_tot rfl (.tmp 60) (.tmp 62) rfl rfl (unhid HO7) rfl (unhid B7) (unhid O2).1.2.1 (by omega) hs7 ?_
        intro A9 c9 w9 o9 g9
        have O9 := hid o9
        have E9 : Below w.heap.size w7 w9 := (Below.refl _ _).grown g9 hs7 (fun q hq => ((unhid HO7).from_ q hq).1)
        have B9 := hid ((unhid HB7).trans E9)
        have T9 := hid ((unhid T7).below (E9.mono hD))
        have M9 : Hid ((os ++ [rootT (us.drop k)]).length = mo + 1) := by show _ = _; rw [List.length_append, HM.out]; rfl
        have K9 := hid (oks_snoc (unhid HK) (unhid O2).1)
        have S9 : Hid ((os ++ [rootT (us.drop k)]) ++ pathT (us.take k) j = pathT ts i) := by
          show _ = _
          rw [← HS.out, E.out, List.append_assoc]; rfl
        clear o9 g9 E9 hs7 hsB
        go_wp2_with fail
        go_roundw
        case rel => exact ⟨us.take k, A3, A9, k, c1, j, mo + 1, c9, os ++ [rootT (us.drop k)], by omega, by omega, hjk, rfl, rfl, rfl, T9, O9, M9, K9, S9, B9⟩
        case measure => simp [lenV]; omega
      · have E : Hid (pathT us j = rootT (us.take k) :: pathT (us.drop k) (j - k)) := by
          have h := Aud.path_right ndT ndE (ts := us) (i := j) (by rw [HUL]; exact h2) (by rw [HUL, ← hk]; exact hjk)
          rw [HUL, ← hk] at h
          exact h
        have i4 : ¬ ((j : Int) < (k : Int)) := by omega
        have hkj : k ≤ j := by omega
        have i5 : (k : Int) ≤ (j : Int) := by omega
        clear hk HUL
        go_wp2_with fail
        refine (half_any m _ h2 hm).mono ?_
        rintro e w' ⟨rfl, rfl⟩
        rw [← HQ.out]
        go_wp2_with (with_reducible refine halt_op (some 10) (.alloc _) (fun K hK => ?_))
        refine go_on hK ?_; clear hK
        refine alloc_row _ totZ rfl rfl ?_
        rintro gs w4 hgs s4 b4 e4
        have E4 : Below gs wr w4 := e4
        have B4 := hid b4
        have hgs4 : gs < w4.heap.size := by omega
        have hgw : w.heap.size ≤ gs := by omega
        have hgr : wr.heap.size ≤ gs := by omega
        have HB4 := hid ((unhid HB).trans (E4.mono (by omega)))
        have HU4 := hid ((unhid HU).below (E4.mono (by omega)))
        have HO4 := hid ((unhid HO).below (E4.mono (by omega)) (Nat.le_refl _))
        have hne : Hid (∀ q, at_ Ao = some q → q < gs) := fun q hq => by have := ((unhid HO).from_ q hq).2; omega
        clear b4 e4 hgs s4 E4 HB HU HO
        go_wp2_with (with_reducible refine halt_op (some 50) (.slice _ _ _ _ _) (fun K hK => ?_))
        refine go_on hK ?_; clear hK
        refine slice_step totsE rfl (.tmp 48) none (some (.tmp 49)) rfl rfl (i := 0) (j := k) (Bnd.out 0) (Bnd.at_ rfl) (unhid HU4).row (Nat.zero_le _) (by omega) hc1 ?_
        intro A2 r2
        have T2 := hid ((unhid HU4).left (by omega) r2)
        rw [Nat.sub_zero, Nat.sub_zero]
        clear r2
        go_wp2_with fail
        refine (root_any k (us.take k) A2 c1 D _ (by omega) (by omega) (unhid T2) (by have := (unhid HB4).size; omega) ((unhid HL).below (unhid HB4) h0) (by have := (unhid HB4).size; omega)).mono ?_
        rintro e w5 ⟨rfl, hb5⟩
        have O2 := hid (rootT_ok (unhid T2).oks)
        have B5 := hid ((unhid B4).below hb5 hgs4)
        have HB5 := hid ((unhid HB4).trans (hb5.mono (by omega)))
        have HU5 := hid ((unhid HU4).below (hb5.mono (by omega)))
        have HO5 := hid ((unhid HO4).below hb5 (Nat.le_refl _))
        have hgs5 : gs < w5.heap.size := by have := hb5.size; omega
        clear hb5 HB4 HU4 HO4 T2 B4
        go_wp2_with (with_reducible refine halt_op none (.store _ _ _) (fun K hK => ?_))
        refine go_on hK ?_; clear hK
        refine store_row totT (vs := tc (rootT (us.take k))) rfl (.tmp 10) (.tmp 52) rfl rfl rfl (tc_len (unhid O2).1.2.1) (tc_one _) (unhid B5) (by simp [tc, zeroT, bytes, up]) ?_
        intro w6 b6 g6
        have E6 : Below gs w5 w6 := (Below.refl _ _).grown g6 (by omega) (fun q hq => by injection hq with hq; omega)
        have B6 := hid b6
        have HB6 := hid ((unhid HB5).trans (E6.mono hgw))
        have HU6 := hid ((unhid HU5).below (E6.mono (by omega)))
        have HO6 := hid ((unhid HO5).keep (fun q hq => E6.block q (hne.out q hq)))
        clear b6 g6 HB5 HU5 HO5 E6 B5
        go_wp2_with (with_reducible refine halt_op (some 56) (.slice _ _ _ _ _) (fun K hK => ?_))
        refine go_on hK ?_; clear hK
        refine slice_step totsE rfl (.tmp 54) (some (.tmp 55)) none rfl rfl (i := k) (j := m) (Bnd.at_ rfl) (Bnd.out _) (unhid HU6).row (by omega) (Nat.le_refl _) hc1 ?_
        intro A3 r3
        have T3 := hid ((unhid HU6).right r3)
        clear r3
        go_wp2_with (with_reducible refine halt_op (some 61) (.load _ _) (fun K hK => ?_))
        refine go_on hK ?_; clear hK
        refine load_row totT rfl (.tmp 10) rfl rfl (unhid B6) (tc_len (unhid O2).1.2.1) ?_
        go_wp2_with (with_reducible refine halt_op (some 62) (.buildSlice _ _ _) (fun K hK => ?_))
        refine go_on hK ?_; clear hK
        refine build1 totsE (by decide) rfl (.tmp 61) rfl (cs := tc (rootT (us.take k))) rfl (tc_len (unhid O2).1.2.1) ?_
        intro b7
        obtain ⟨w7, hw7⟩ : ∃ W, W = w6.alloc (.cells (tc (rootT (us.take k))).toArray 38) := ⟨_, rfl⟩
        obtain ⟨g7, hg7⟩ : ∃ g, g = w6.heap.size := ⟨_, rfl⟩
        have E7 : Below w6.heap.size w6 w7 := by rw [hw7]; exact (Below.refl _ _).alloc (Nat.le_refl _) _
        rw [← hw7, ← hg7] at b7
        rw [← hw7, ← hg7]
        have B7 := hid b7
        have HB7 := hid ((unhid HB6).trans (E7.mono (unhid HB6).size))
        have T7 := hid ((unhid T3).below (E7.mono (by have := (unhid HB6).size; omega)))
        have HO7 := hid ((unhid HO6).below E7 (Nat.le_refl _))
        have hs7 := (unhid HB7).size
        clear b7 hw7 hg7 E7 HO6
        go_wp2_with (at_builtin; refine halt_at (fun K hK => ?_))
        refine go_on hK ?_; clear hK
        refine app_tot rfl (.tmp 60) (.tmp 62) rfl rfl (unhid HO7) rfl (unhid B7) (unhid O2).1.2.1 (by omega) hs7 ?_
        intro A9 c9 w9 o9 g9
        have O9 := hid o9
        have E9 : Below w.heap.size w7 w9 := (Below.refl _ _).grown g9 hs7 (fun q hq => ((unhid HO7).from_ q hq).1)
        have B9 := hid ((unhid HB7).trans E9)
        have T9 := hid ((unhid T7).below (E9.mono hD))
        have M9 : Hid ((os ++ [rootT (us.take k)]).length = mo + 1) := by show _ = _; rw [List.length_append, HM.out]; rfl
        have K9 := hid (oks_snoc (unhid HK) (unhid O2).1)
        have S9 : Hid ((os ++ [rootT (us.take k)]) ++ pathT (us.drop k) (j - k) = pathT ts i) := by
          show _ = _
          rw [← HS.out, E.out, List.append_assoc]; rfl
        clear o9 g9 E9 hs7 hsB
        go_wp2_with fail
        go_roundw
        case rel => exact ⟨us.drop k, A3, A9, m - k, c1 - k, j - k, mo + 1, c9, os ++ [rootT (us.take k)], by omega, by omega, by omega, rfl, by rw [Int.ofNat_sub hkj], rfl, T9, O9, M9, K9, S9, B9⟩
        case measure => simp [lenV]; omega
    · have i3 : ¬ ((1 : Int) < (m : Int)) := by omega
      have E : Hid (os = pathT ts i) := by
        have := HS.out
        unfold pathT at this
        rw [path_end ndT ndE (by rw [(unhid HU).len]; exact h2), List.append_nil] at this
        exact this
      clear hj hm hc1
      go_wp2_with fail
      refine (reverse_any os Ao mo co w.heap.size _ HM.out (by omega) (unhid HK) (unhid HO)).mono ?_
      rintro e w5 ⟨rfl, o5, b5⟩
      have B5 := hid ((unhid HB).trans b5)
      have LE := hid o5.le.1
      rw [E.out] at o5
      have O5 := hid o5
      have M5 : Hid ((pathT ts i).reverse.length = mo) := by show _ = _; rw [List.length_reverse, ← E.out, HM.out]
      clear o5 b5
      go_wp2_with fail
      go_ret2
      exact ⟨Ao, mo, co, rfl, M5.out, LE.out, unhid O5, unhid B5⟩
end Go.Proofs.YtjdffhlbiiefaaaDoor
