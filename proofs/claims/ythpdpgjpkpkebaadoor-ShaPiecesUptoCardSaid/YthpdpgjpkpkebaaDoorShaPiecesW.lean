/- The walk of the law ShaPieces. -/
import Derived.Test.YthpdpgjpkpkebaaDoorShaOfW
import Derived.Test.YthpdpgjpkpkebaaDoorPieces
import Derived.Test.YthpdpgjpkpkebaaDoorNats
namespace Go.Proofs.YthpdpgjpkpkebaaDoor
set_option linter.unusedVariables false
open Go.RowKit Go.Mny
set_option maxHeartbeats 4000000 in
set_option maxRecDepth 100000 in
theorem shaPieces_walk (A0 : Option Addr) (n0 c0 m0 : Nat) (w : World) (s0 : Sh.ok w w.heap.size (.slice 1 (.slice 1 (.int .u8))) m0 [.slice A0 n0 c0]) (hb : m0 ≤ 1048576) (hL : Laid w) (h0 : 0 < w.heap.size) :
    Calls Tryd.prog 4 #[.slice A0 n0 c0] w fun e w' => e = .returned (.bool true) ∧ Below w.heap.size w w' := by
  obtain ⟨A, n, c, L, es, hv, hc1, hc2, hR, hLn, hP, hm⟩ := Sh.rows s0
  injection hv with e1 e2 e3
  subst e1 e2 e3
  have HL := hid hL; have HR := hid hR; have HP := hid hP; have HLN := hid hLn
  have hn : n0 ≤ 1048576 := by omega
  have htot : L.flatten.length ≤ 1048576 := by omega
  clear s0 hL hR hP hLn hm hb hc1 hc2
  go_enter Tryd.func4, Tryd.ntmps4
  go_wp2_with fail
  refine (known_any _ (unhid HL) h0).mono ?_
  rintro e w1 ⟨rfl, hb1⟩
  have E1 := hid hb1
  clear hb1
  go_wp2_with fail
  refine (new_any _).mono ?_
  rintro e w2 ⟨gh, rfl, g1, g2, hbk, hb2⟩
  have hgh : w.heap.size ≤ gh := by have := (unhid E1).size; omega
  have E2 := hid ((unhid E1).trans (hb2.mono (unhid E1).size))
  have H2 := hid (Hsh.new hbk)
  clear hb2 hbk E1
  go_wp2_with fail
  go_loopw [6, 5] (fun v6 v5 wr => ∃ (i : Nat) (M : List Nat) (A1 : Option Addr) (c1 : Nat) (A2 : Option Addr) (c2 : Nat), i ≤ n0 ∧ M.length ≤ 1048576 ∧ v6 = .int .i64 i ∧ v5 = .slice A1 M.length c1 ∧ Hid (up M = (L.take i).flatten) ∧ Hid (B8 M) ∧ Hid (Own wr w.heap.size 5 1 A1 M.length c1 (bytes M)) ∧ Hid (Hsh wr gh M A2 c2) ∧ Hid (∀ q, at_ A1 = some q → q ≠ gh ∧ at_ A2 ≠ some q) ∧ Hid (Below w.heap.size w wr)) (fun v6 _ _ => n0 - (intOf v6).toNat)
  case atStart => exact ⟨0, [], none, 0, none, 0, Nat.zero_le _, by simp, rfl, rfl, hid rfl, hid B8.nil, hid (Own.none _ _ _ _), H2, hid (fun q hq => by cases hq), E2⟩
  case round =>
    obtain ⟨i, M, A1, c1, A2, c2, hi, hM, rfl, rfl, HM, HM8, HO, HH, HN, HE⟩ := hrel
    have hgl := (unhid HH).blk.lt'
    by_cases hlt : i < n0
    · obtain ⟨l, hl⟩ : ∃ l, L[i]? = some l := ⟨_, List.getElem?_eq_getElem (by rw [HLN.out]; exact hlt)⟩
      obtain ⟨A3, c3, hes, hc3, hc4, hr3, hw3⟩ := HP.out i l hl
      obtain ⟨b, rfl, b8⟩ := nats_of hw3
      rw [up_len] at hes hc3 hr3
      obtain ⟨g, o, rfl, hg, hcell⟩ := ((unhid HR).below (unhid HE)).cells (by omega)
      have k1 : wr.cell? ⟨g, o + i, none⟩ = some (.slice A3 b.length c3) := by rw [hcell i (by have := (unhid HR).len; omega), hes]
      have hMb : up (M ++ b) = (L.take (i + 1)).flatten := by
        rw [List.take_add_one, hl, List.flatten_append, ← HM.out]; simp [up]
      have hle : (M ++ b).length ≤ 1048576 := by
        rw [← up_len, hMb]
        have : ((L.take (i + 1)).flatten).length ≤ L.flatten.length := by
          conv => rhs; rw [← List.take_append_drop (i + 1) L]
          rw [List.flatten_append, List.length_append]; omega
        omega
      have hle2 : M.length + b.length ≤ 1048576 := by rw [← List.length_append]; exact hle
      have HMB := hid hMb; have HR3 := hid ((show Row w w.heap.size 1 A3 b.length (bytes b) from hr3).below (unhid HE)); have HB8' := hid b8
      have W8 := hid (B8.append HM8.out b8)
      have j0 : (0 : Int) ≤ (i : Int) := by omega
      have j1 : (i : Int) < (n0 : Int) := by omega
      clear hl hes hc3 hc4 hr3 hw3 b8 hcell hMb
      go_wp2_with fail
      refine (write_any gh M b A2 A3 c2 b.length c3 w.heap.size _ (unhid HH) (unhid HR3) (unhid HE).size (fun q hq hd => by omega) (by omega) W8.out ((unhid HL).below (unhid HE) h0) (by omega)).mono ?_
      rintro e w3 ⟨rfl, A4, c4, H4, K4, N4⟩
      have E3' : Below w.heap.size wr w3 := K4.below (unhid HE).size (fun j hj h => h.elim (fun h => by omega) (fun h => by have := (unhid HH).at_ne j h; omega))
      have E3 := hid ((unhid HE).trans E3')
      have O3 := hid ((unhid HO).kept K4 (fun q hq h => h.elim (fun h => (HN.out q hq).1 h) (fun h => (HN.out q hq).2 h)))
      have R3 := hid ((unhid HR3).below E3')
      have HH4 := hid H4
      have N4' : Hid (∀ q, at_ A1 = some q → q ≠ gh ∧ at_ A4 ≠ some q) := fun q hq => ⟨(HN.out q hq).1, fun h => by
        rcases N4 q h with h | h
        · exact (HN.out q hq).2 h
        · have := ((unhid HO).from_ q hq).2; omega⟩
      have k3 : w3.cell? ⟨g, o + i, none⟩ = some (.slice A3 b.length c3) := by rw [E3'.cell (p := ⟨g, o + i, none⟩) hg]; exact k1
      clear H4 K4 N4 E3' k1 HO HH HN HE HR3
      go_wp2_with (at_builtin; refine halt_at (fun K hK => ?_))
      refine go_on hK ?_; clear hK
      have hs3 := (unhid E3).size
      refine app_step bytesE rfl (.tmp 27) (.tmp 31) rfl rfl (unhid O3) rfl (unhid R3) (bytes_one b) (by simp [maxLen]; omega) (by omega) (by omega) ?_
      intro A5 c5 w5 o5 g5 l5
      rw [← bytes_append] at o5
      have hgl3 := (unhid HH4).blk.lt'
      have H5 := hid ((unhid HH4).kept (Kept.of_grown g5) (fun h => (N4'.out gh h).1 rfl) (fun q hq h => (N4'.out q h).2 hq))
      have N5 : Hid (∀ q, at_ A5 = some q → q ≠ gh ∧ at_ A4 ≠ some q) := fun q hq => by
        rcases l5 with h | h
        · rw [h] at hq; exact N4'.out q hq
        · rw [h] at hq; injection hq with hq
          exact ⟨by omega, fun h2 => by have := ((unhid HH4).at_ne q h2).2; omega⟩
      have E5 := hid ((unhid E3).trans (Below.grown (Below.refl _ _) g5 (by omega) (fun q hq => ((unhid O3).from_ q hq).1)))
      have O5 := hid o5
      have hlen : M.length + b.length = (M ++ b).length := by rw [List.length_append]
      rw [hlen] at O5 ⊢
      clear o5 g5 l5 E3 O3 R3 HH4 N4' k3 hlen
      generalize M ++ b = M2 at *
      go_wp2_with fail
      refine (hsum_any gh M2 A4 c4 _ (unhid H5) (by omega) W8.out ((unhid HL).below (unhid E5) h0) (by omega)).mono ?_
      rintro e w6 ⟨rfl, hb6⟩
      have hs5 := (unhid E5).size
      have hl5 := (unhid H5).blk.lt'
      have k56 : Kept (fun _ => False) w5 w6 := Kept.of_below hb6 (Nat.le_refl _)
      have H6 := hid ((unhid H5).kept k56 (fun h => h) (fun _ _ h => h))
      have O6 := hid ((unhid O5).below hb6 (Nat.le_refl _))
      have E6 := hid ((unhid E5).trans (hb6.mono hs5))
      clear hb6 k56 H5 O5 E5
      go_wp2_with fail
      refine (sum_any M2 A5 M2.length c5 _ _ (Row.of_own (unhid O6)) (Nat.le_refl _) (by omega) W8.out ((unhid HL).below (unhid E6) h0) (by have := (unhid E6).size; omega)).mono ?_
      rintro e w7 ⟨rfl, hb7⟩
      have hs6 := (unhid E6).size
      have k67 : Kept (fun _ => False) w6 w7 := Kept.of_below hb7 (Nat.le_refl _)
      have H7 := hid ((unhid H6).kept k67 (fun h => h) (fun _ _ h => h))
      have O7 := hid ((unhid O6).below hb7 (Nat.le_refl _))
      have E7 := hid ((unhid E6).trans (hb7.mono hs6))
      clear hb7 k67 H6 O6 E6
      go_wp2_with (with_reducible refine halt_op (some 37) (.binOp _ _ _ _ _) (fun K hK => ?_))
      refine go_on hK ?_; clear hK
      refine neq_arr digT (l1 := up (Sh2.sum M2)) (l2 := up (Sh2.sum M2)) (b := false) (by kernel_rfl) rfl (.tmp 34) (.tmp 36) 25 rfl rfl rfl (sum_len_u _) (sum_len_u _) (by simp) ?_
      go_wp2_with fail
      go_roundw
      case rel => exact ⟨i + 1, M2, A5, c5, A4, c4, by omega, hle, by go_num, rfl, HMB, W8, O7, H7, N5, E7⟩
      case measure => simp [intOf]; omega
    · have hin : i = n0 := by omega
      subst hin
      go_wp2_with fail
      refine (hsum_any gh M A2 c2 _ (unhid HH) (by omega) HM8.out ((unhid HL).below (unhid HE) h0) (by omega)).mono ?_
      rintro e w6 ⟨rfl, hb6⟩
      have hs5 := (unhid HE).size
      have O6 := hid ((unhid HO).below hb6 (Nat.le_refl _))
      have E6 := hid ((unhid HE).trans (hb6.mono hs5))
      clear hb6 HO HE HH
      go_wp2_with fail
      refine (sum_any M A1 M.length c1 _ _ (Row.of_own (unhid O6)) (Nat.le_refl _) (by omega) HM8.out ((unhid HL).below (unhid E6) h0) (by have := (unhid E6).size; omega)).mono ?_
      rintro e w7 ⟨rfl, hb7⟩
      have hs6 := (unhid E6).size
      have E7 := hid ((unhid E6).trans (hb7.mono hs6))
      clear hb7 E6 O6
      go_wp2_with (with_reducible refine halt_op (some 42) (.binOp _ _ _ _ _) (fun K hK => ?_))
      refine go_on hK ?_; clear hK
      refine eql_arr digT (l1 := up (Sh2.sum M)) (l2 := up (Sh2.sum M)) (b := true) (by kernel_rfl) rfl (.tmp 39) (.tmp 41) 25 rfl rfl rfl (sum_len_u _) (sum_len_u _) (by simp) ?_
      go_wp2_with fail
      go_ret
      exact ⟨rfl, unhid E7⟩
end Go.Proofs.YthpdpgjpkpkebaaDoor
