/- The walks of audit.root and audit.Root. -/
import Derived.Test.YtjdffhlbiiefaaaDoorLeafW
import Derived.Test.YtjdffhlbiiefaaaDoorHalfW
namespace Go.Proofs.YtjdffhlbiiefaaaDoor
set_option linter.unusedVariables false
open Go.RowKit Go.Mny Aud
def tcs (ts : List Tot) : List Value := (ts.map tc).flatten
theorem tcs_each {ts : List Tot} (h : Oks ts) : ∀ l ∈ ts.map tc, l.length = 33 := by
  intro l hl
  obtain ⟨t, ht, rfl⟩ := List.mem_map.1 hl
  exact tc_len (h t ht).2.1
theorem tcs_len {ts : List Tot} (h : Oks ts) : (tcs ts).length = ts.length * 33 := by
  unfold tcs
  rw [flat_len _ (tcs_each h), List.length_map]
theorem tcs_left {ts : List Tot} (h : Oks ts) (k : Nat) : ((tcs ts).take (k * 33)).drop (0 * 33) = tcs (ts.take k) := by
  unfold tcs
  rw [flat_take _ k (tcs_each h), Nat.zero_mul, List.drop_zero, List.map_take]
theorem tcs_right {ts : List Tot} (h : Oks ts) {n : Nat} (hn : ts.length = n) (k : Nat) : ((tcs ts).take (n * 33)).drop (k * 33) = tcs (ts.drop k) := by
  rw [List.take_of_length_le (by rw [tcs_len h, hn]; exact Nat.le_refl _)]
  unfold tcs
  rw [flat_drop _ k (tcs_each h), List.map_drop]
theorem tcs_at {ts : List Tot} (h : Oks ts) {i : Nat} {t : Tot} (ht : ts[i]? = some t) : ((tcs ts).drop (i * 33)).take 33 = tc t := by
  unfold tcs
  exact flat_at (tcs_each h) (by rw [List.getElem?_map, ht]; rfl)
/-- a slice of totals that there can be -/
structure Tots (w : World) (D : Nat) (A : Option Addr) (n : Nat) (ts : List Tot) : Prop where
  row : Row w D 33 A n (tcs ts)
  len : ts.length = n
  oks : Oks ts
  all : sum ts ≤ 1125899906842624
theorem Tots.below {w w' : World} {D n : Nat} {A : Option Addr} {ts : List Tot} (h : Tots w D A n ts) (hb : Below D w w') : Tots w' D A n ts := ⟨h.row.below hb, h.len, h.oks, h.all⟩
theorem Tots.get {w : World} {D n i : Nat} {A : Option Addr} {ts : List Tot} (h : Tots w D A n ts) (hi : i < n) :
    ∃ g o t, A = some ⟨g, o, none⟩ ∧ g < D ∧ Hid (ts[i]? = some t) ∧ w.cell? ⟨g, o + i * 33, none⟩ = some (.int .i64 t.s) ∧ Hid (w.rangeAt g (o + i * 33) (tc t)) ∧ Ok t ∧ t.s ≤ 1125899906842624 := by
  obtain ⟨g, o, e1, e2, e3⟩ := h.row.elem hi
  obtain ⟨t, ht⟩ : ∃ t, ts[i]? = some t := ⟨_, List.getElem?_eq_getElem (by rw [h.len]; exact hi)⟩
  rw [tcs_at h.oks ht] at e3
  have hm := List.mem_of_getElem? ht
  refine ⟨g, o, t, e1, e2, ht, ?_, e3, h.oks t hm, Int.le_trans (le_sum h.oks hm) h.all⟩
  have := e3.out 0 (.int .i64 t.s) rfl
  exact this
theorem Tots.left {w w' : World} {D n k : Nat} {A A2 : Option Addr} {ts : List Tot} (h : Tots w D A n ts) (hk : k ≤ n) (r : Row w' D 33 A2 (k - 0) (((tcs ts).take (k * 33)).drop (0 * 33))) : Tots w' D A2 k (ts.take k) := by
  rw [tcs_left h.oks, Nat.sub_zero] at r
  exact ⟨r, by rw [List.length_take, h.len]; omega, h.oks.take k, Int.le_trans (sum_take_le h.oks k) h.all⟩
theorem Tots.right {w w' : World} {D n k : Nat} {A A2 : Option Addr} {ts : List Tot} (h : Tots w D A n ts) (r : Row w' D 33 A2 (n - k) (((tcs ts).take (n * 33)).drop (k * 33))) : Tots w' D A2 (n - k) (ts.drop k) := by
  rw [tcs_right h.oks h.len] at r
  exact ⟨r, by rw [List.length_drop, h.len], h.oks.drop k, Int.le_trans (sum_drop_le h.oks k) h.all⟩
def ndE : Tot := ⟨0, Sh2.sum []⟩
def rootT (ts : List Tot) : Tot := Aud.root ndT ndE ts
theorem rootT_ok {ts : List Tot} (h : Oks ts) : Ok (rootT ts) ∧ (rootT ts).s = sum ts := root_ok nodeLaw ts h
/-- a total comes back, and nothing is wrong -/
def RetT (w : World) (t : Tot) (e : Ending) (w' : World) : Prop := e = .returned (.tuple #[totV t, .nilIface]) ∧ Below w.heap.size w w'
theorem RetT.of {w w' : World} {t u : Tot} {e : Ending} (h : RetT w t e w') (hu : t = u) : RetT w u e w' := hu ▸ h
set_option maxHeartbeats 4000000 in
set_option maxRecDepth 100000 in
theorem root_any : ∀ (n : Nat) (ts : List Tot) (A : Option Addr) (c D : Nat) (w : World), n ≤ 256 → n ≤ c → Tots w D A n ts → D ≤ w.heap.size → Laid w → 0 < w.heap.size →
    Calls Tryd.prog 15 #[.slice A n c] w (RetT w (rootT ts)) := by
  intro n
  induction n using Nat.strongRecOn with
  | _ n ih =>
  intro ts A c D w hn hc ht hD hL h0
  have IH := hid ih; have HT := hid ht; have HL := hid hL
  clear ih ht hL
  by_cases n0 : n = 0
  · subst n0
    have hts : ts = [] := List.eq_nil_of_length_eq_zero (unhid HT).len
    subst hts
    have E : Hid (rootT [] = ⟨0, Sh2.sum []⟩) := Aud.root_nil ndT ndE
    clear hn hc
    go_enter Tryd.func15, Tryd.ntmps15
    go_wp2_with (with_reducible refine halt_op (some 2) (.alloc _) (fun K hK => ?_))
    refine go_on hK ?_; clear hK
    refine alloc_row _ totZ rfl rfl ?_
    rintro g2 w2 hg2 s2 b2 e2
    have B2 := hid b2; have E2 := hid (e2.mono (show w.heap.size ≤ g2 by omega))
    have hg2' : g2 < w2.heap.size := by omega
    have hwg2 : w.heap.size ≤ g2 := by omega
    clear b2 e2 hg2 s2
    go_wp2_with fail
    refine (sum_any [] none 0 0 0 _ (Row.nil _ _ _ _) (Nat.zero_le _) (by decide) (fun x hx => absurd hx List.not_mem_nil) ((unhid HL).below (unhid E2) h0) (by omega)).mono ?_
    rintro e w3 ⟨rfl, hb3⟩
    have B3 := hid ((unhid B2).below hb3 hg2')
    have E3 := hid ((unhid E2).trans (hb3.mono (unhid E2).size))
    clear hb3
    go_wp2_with (with_reducible refine halt_op (some 14) (.build _ _) (fun K hK => ?_))
    refine go_on hK ?_; clear hK
    refine build_totd rfl (.tmp 13) rfl (d := Sh2.sum []) (Sh2.sum_len _) rfl ?_
    refine store_row totT (vs := tc ⟨0, Sh2.sum []⟩) rfl (.tmp 2) (.tmp 14) rfl rfl rfl (tc_len (Sh2.sum_len _)) (tc_one _) (unhid B3) (by simp [tc, zeroT, bytes, up]) ?_
    intro wA bA gA
    have BA := hid bA
    have EA := hid ((unhid E3).grown gA (unhid E3).size (fun q hq => by injection hq with hq; omega))
    clear bA gA
    go_wp2_with fail
    exact bodyPost_ret (results_row_tmp rfl _ _ g2 _ (tc ⟨0, Sh2.sum []⟩).toArray (0, 0) _ rfl (unhid BA) Tryd.underlying38 rfl (by rw [List.size_toArray, tc_len (Sh2.sum_len _)]; exact totT.size)) rfl (RetT.of ⟨rfl, unhid EA⟩ E.out.symm)
  · by_cases n1 : n = 1
    · subst n1
      obtain ⟨g, o, t, rfl, hg, hti, hcell, hrg, hok, hmax⟩ := (unhid HT).get (i := 0) (by decide)
      have hts : ts = [t] := by
        obtain ⟨x, rfl⟩ := List.length_eq_one_iff.1 (unhid HT).len
        have : x = t := by simpa using hti.out
        rw [this]
      have E : Hid (rootT ts = t) := by rw [hts]; exact Aud.root_one ndT ndE t
      have hs0 := hok.1
      have HOK := hid hok
      clear hti hts hok n0
      go_enter Tryd.func15, Tryd.ntmps15
      go_wp2_with (with_reducible refine halt_op (some 2) (.alloc _) (fun K hK => ?_))
      refine go_on hK ?_; clear hK
      refine alloc_row _ totZ rfl rfl ?_
      rintro g2 w2 hg2 s2 b2 e2
      have B2 := hid b2; have E2 := hid (e2.mono (show w.heap.size ≤ g2 by omega))
      have hg2' : g2 < w2.heap.size := by omega
      have hwg2 : w.heap.size ≤ g2 := by omega
      have hgg : g < g2 := by omega
      have hc2 : w2.cell? ⟨g, o, none⟩ = some (.int .i64 t.s) := by
        have := ((unhid E2).cell (p := ⟨g, o, none⟩) (show g < w.heap.size by omega)).trans (by simpa using hcell)
        exact this
      have hr2 : Hid (w2.rangeAt g o (tc t)) := fun j v hv => by
        have := hrg.out j v hv
        rw [Nat.zero_mul, Nat.add_zero] at this
        exact ((unhid E2).cell (p := ⟨g, o + j, none⟩) (show g < w.heap.size by omega)).trans this
      clear b2 e2 hg2 s2 hcell hrg
      go_wp2_with (first | (go_at_call 11; refine (check_ok _ _ hs0 hmax).mono ?_; rintro e w' ⟨rfl, rfl⟩) | (with_reducible refine halt_op (some 28) (.load _ _) (fun K hK => ?_)))
      refine go_on hK ?_; clear hK
      refine load_mid totT rfl (.tmp 27) rfl rfl (unhid hr2) (tc_len (unhid HOK).2.1) ?_
      refine store_row totT (vs := tc t) rfl (.tmp 2) (.tmp 28) rfl rfl rfl (tc_len (unhid HOK).2.1) (tc_one _) (unhid B2) (by simp [tc, zeroT, bytes, up]) ?_
      intro wA bA gA
      have BA := hid bA
      have EA := hid ((unhid E2).grown gA (unhid E2).size (fun q hq => by injection hq with hq; omega))
      clear bA gA hc2
      go_wp2_with fail
      exact bodyPost_ret (results_row_tmp rfl _ _ g2 _ (tc t).toArray (0, 0) _ rfl (unhid BA) Tryd.underlying38 rfl (by rw [List.size_toArray, tc_len (unhid HOK).2.1]; exact totT.size)) rfl (RetT.of ⟨rfl, unhid EA⟩ E.out.symm)
    · have n2 : 2 ≤ n := by omega
      obtain ⟨k, hk⟩ : ∃ k, k = Aud.half n := ⟨_, rfl⟩
      have k1 : 0 < k := by rw [hk]; exact half_pos n
      have k2 : k < n := by rw [hk]; exact half_lt n2
      have E : Hid (rootT ts = ndT (rootT (ts.take k)) (rootT (ts.drop k))) := by
        have h := Aud.root_two ndT ndE (ts := ts) (by rw [(unhid HT).len]; exact n2)
        rw [(unhid HT).len, ← hk] at h
        exact h
      have HK := hid hk
      have i0 : ((n : Int) == 0) = false := by simpa using n0
      have i1 : ((n : Int) == 1) = false := by
        simp; omega
      clear hk
      go_enter Tryd.func15, Tryd.ntmps15
      go_wp2_with (with_reducible refine halt_op (some 2) (.alloc _) (fun K hK => ?_))
      refine go_on hK ?_; clear hK
      refine alloc_row _ totZ rfl rfl ?_
      rintro g2 w2 hg2 s2 b2 e2
      have B2 := hid b2; have E2 := hid (e2.mono (show w.heap.size ≤ g2 by omega))
      have hg2' : g2 < w2.heap.size := by omega
      have hwg2 : w.heap.size ≤ g2 := by omega
      clear b2 e2 hg2 s2
      go_wp2_with fail
      refine (half_any n _ n2 hn).mono ?_
      rintro e w' ⟨rfl, rfl⟩
      rw [← HK.out]
      have T2 := hid ((unhid HT).below ((unhid E2).mono hD))
      go_wp2_with (with_reducible refine halt_op (some 35) (.slice _ _ _ _ _) (fun K hK => ?_))
      refine go_on hK ?_; clear hK
      refine slice_step totsE rfl (.tmp 33) none (some (.tmp 34)) rfl rfl (i := 0) (j := k) (Bnd.out 0) (Bnd.at_ rfl) (unhid T2).row (Nat.zero_le _) (by omega) hc ?_
      intro A1 r1
      have T1 := hid ((unhid T2).left (by omega) r1)
      rw [Nat.sub_zero, Nat.sub_zero]
      clear r1
      go_wp2_with fail
      refine (IH.out k k2 (ts.take k) A1 c D _ (by omega) (by omega) (unhid T1) (by have := (unhid E2).size; omega) ((unhid HL).below (unhid E2) h0) (by have := (unhid E2).size; omega)).mono ?_
      rintro e w3 ⟨rfl, hb3⟩
      have B3 := hid ((unhid B2).below hb3 hg2')
      have E3 := hid ((unhid E2).trans (hb3.mono (unhid E2).size))
      have O1 := hid (rootT_ok (unhid T1).oks)
      have T3 := hid ((unhid HT).below ((unhid E3).mono hD))
      have hg3 : g2 < w3.heap.size := by have := hb3.size; omega
      clear hb3 T1 T2
      go_wp2_with (with_reducible refine halt_op (some 6) (.alloc _) (fun K hK => ?_))
      refine go_on hK ?_; clear hK
      refine alloc_row _ totZ rfl rfl ?_
      rintro g6 w4 hg6 s4 b4 e4
      refine store_row totT (vs := tc (rootT (ts.take k))) rfl (.tmp 6) (.tmp 37) rfl rfl rfl (tc_len (unhid O1).1.2.1) (tc_one _) b4 (by simp [tc, zeroT, bytes, up]) ?_
      intro w5 b5 g5
      have hE5 : Below g6 w3 w5 := e4.grown g5 (by omega) (fun q hq => by injection hq with hq; omega)
      have h26 : g2 < g6 := by omega
      have hw36 : w3.heap.size ≤ g6 := by omega
      have B5 := hid ((unhid B3).below hE5 h26)
      have C5 := hid b5
      have E5 := hid ((unhid E3).trans (hE5.mono (by have := (unhid E3).size; omega)))
      have T5 := hid ((unhid HT).below ((unhid E5).mono hD))
      have hg65 : g6 < w5.heap.size := b5.lt'
      clear b4 e4 hg6 s4 b5 g5 hE5 T3
      go_wp2_with (with_reducible refine halt_op (some 46) (.slice _ _ _ _ _) (fun K hK => ?_))
      refine go_on hK ?_; clear hK
      refine slice_step totsE rfl (.tmp 44) (some (.tmp 45)) none rfl rfl (i := k) (j := n) (Bnd.at_ rfl) (Bnd.out _) (unhid T5).row (by omega) (Nat.le_refl _) hc ?_
      intro A2 r2
      have T6 := hid ((unhid T5).right r2)
      clear r2
      go_wp2_with fail
      refine (IH.out (n - k) (by omega) (ts.drop k) A2 (c - k) D _ (by omega) (by omega) (unhid T6) (by have := (unhid E5).size; omega) ((unhid HL).below (unhid E5) h0) (by have := (unhid E5).size; omega)).mono ?_
      rintro e w6 ⟨rfl, hb6⟩
      have B6 := hid ((unhid B5).below hb6 (by omega))
      have C6 := hid ((unhid C5).below hb6 hg65)
      have E6 := hid ((unhid E5).trans (hb6.mono (unhid E5).size))
      have O2 := hid (rootT_ok (unhid T6).oks)
      have hg66 : g6 < w6.heap.size := by have := hb6.size; omega
      have HS : Hid ((rootT (ts.take k)).s + (rootT (ts.drop k)).s ≤ 1125899906842624) := by
        show _ ≤ _
        rw [(unhid O1).2, (unhid O2).2, ← sum_split]; exact (unhid HT).all
      clear hb6 T5 T6 B5 C5
      go_wp2_with (with_reducible refine halt_op (some 8) (.alloc _) (fun K hK => ?_))
      refine go_on hK ?_; clear hK
      refine alloc_row _ totZ rfl rfl ?_
      rintro g8 w7 hg8 s7 b7 e7
      refine store_row totT (vs := tc (rootT (ts.drop k))) rfl (.tmp 8) (.tmp 48) rfl rfl rfl (tc_len (unhid O2).1.2.1) (tc_one _) b7 (by simp [tc, zeroT, bytes, up]) ?_
      intro w8 b8 g8'
      have hE8 : Below g8 w6 w8 := e7.grown g8' (by omega) (fun q hq => by injection hq with hq; omega)
      have h68 : g6 < g8 := by omega
      have B8 := hid ((unhid B6).below hE8 (by omega))
      have C8 := hid ((unhid C6).below hE8 h68)
      have D8 := hid b8
      have E8 := hid ((unhid E6).trans (hE8.mono (by have := (unhid E6).size; omega)))
      clear b7 e7 hg8 s7 b8 g8' hE8 B6 C6
      go_wp2_with (with_reducible refine halt_op (some 54) (.load _ _) (fun K hK => ?_))
      refine go_on hK ?_; clear hK
      refine load_row totT rfl (.tmp 6) rfl rfl (unhid C8) (tc_len (unhid O1).1.2.1) ?_
      refine load_row totT rfl (.tmp 8) rfl rfl (unhid D8) (tc_len (unhid O2).1.2.1) ?_
      go_wp2_with fail
      refine (node_any _ _ _ (unhid O1).1 (unhid O2).1 HS.out ((unhid HL).below (unhid E8) h0) (by have := (unhid E8).size; omega)).mono ?_
      rintro e w9 ⟨rfl, hb9⟩
      have B9 := hid ((unhid B8).below hb9 (unhid B8).lt')
      have E9 := hid ((unhid E8).trans (hb9.mono (unhid E8).size))
      clear hb9 B8 C8 D8
      go_wp2_with (with_reducible refine halt_op none (.store _ _ _) (fun K hK => ?_))
      refine go_on hK ?_; clear hK
      refine store_row totT (vs := tc (ndT (rootT (ts.take k)) (rootT (ts.drop k)))) rfl (.tmp 2) (.tmp 57) rfl rfl rfl (tc_len (Sh2.sum_len _)) (tc_one _) (unhid B9) (by simp [tc, zeroT, bytes, up]) ?_
      intro wA bA gA
      have BA := hid bA
      have EA := hid ((unhid E9).grown gA (unhid E9).size (fun q hq => by injection hq with hq; omega))
      clear bA gA
      go_wp2_with fail
      exact bodyPost_ret (results_row_tmp rfl _ _ g2 _ (tc (ndT (rootT (ts.take k)) (rootT (ts.drop k)))).toArray (0, 0) _ rfl (unhid BA) Tryd.underlying38 rfl (by rw [List.size_toArray, tc_len (Sh2.sum_len _)]; exact totT.size)) rfl (RetT.of ⟨rfl, unhid EA⟩ E.out.symm)
set_option maxHeartbeats 4000000 in
set_option maxRecDepth 100000 in
theorem Root_any (n : Nat) (ts : List Tot) (A : Option Addr) (c D : Nat) (w : World) (hn : n ≤ 256) (hc : n ≤ c) (ht : Tots w D A n ts) (hD : D ≤ w.heap.size) (hL : Laid w) (h0 : 0 < w.heap.size) :
    Calls Tryd.prog 6 #[.slice A n c] w (RetT w (rootT ts)) := by
  have HT := hid ht; have HL := hid hL
  clear ht hL
  go_enter Tryd.func6, Tryd.ntmps6
  go_wp2_with (with_reducible refine halt_op (some 2) (.alloc _) (fun K hK => ?_))
  refine go_on hK ?_; clear hK
  refine alloc_row _ totZ rfl rfl ?_
  rintro g2 w2 hg2 s2 b2 e2
  have B2 := hid b2; have E2 := hid (e2.mono (show w.heap.size ≤ g2 by omega))
  have hg2' : g2 < w2.heap.size := by omega
  have hwg2 : w.heap.size ≤ g2 := by omega
  have T2 := hid ((unhid HT).below ((unhid E2).mono hD))
  clear b2 e2 hg2 s2
  go_wp2_with fail
  refine (root_any n ts A c D _ hn hc (unhid T2) (by have := (unhid E2).size; omega) ((unhid HL).below (unhid E2) h0) (by omega)).mono ?_
  rintro e w9 ⟨rfl, hb9⟩
  have B9 := hid ((unhid B2).below hb9 hg2')
  have E9 := hid ((unhid E2).trans (hb9.mono (unhid E2).size))
  have O1 := hid (rootT_ok (unhid T2).oks)
  clear hb9
  go_wp2_with (with_reducible refine halt_op none (.store _ _ _) (fun K hK => ?_))
  refine go_on hK ?_; clear hK
  refine store_row totT (vs := tc (rootT ts)) rfl (.tmp 2) (.tmp 11) rfl rfl rfl (tc_len (unhid O1).1.2.1) (tc_one _) (unhid B9) (by simp [tc, zeroT, bytes, up]) ?_
  intro wA bA gA
  have BA := hid bA
  have EA := hid ((unhid E9).grown gA (unhid E9).size (fun q hq => by injection hq with hq; omega))
  clear bA gA
  go_wp2_with fail
  exact bodyPost_ret (results_row_tmp rfl _ _ g2 _ (tc (rootT ts)).toArray (0, 0) _ rfl (unhid BA) Tryd.underlying38 rfl (by rw [List.size_toArray, tc_len (unhid O1).1.2.1]; exact totT.size)) rfl ⟨rfl, unhid EA⟩
end Go.Proofs.YtjdffhlbiiefaaaDoor
