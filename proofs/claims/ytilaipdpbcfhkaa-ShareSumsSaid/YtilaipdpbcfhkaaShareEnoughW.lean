/- The walk of the law ShareEnough. -/
import Derived.Test.YtilaipdpbcfhkaaEnoughW
import Derived.Test.YtilaipdpbcfhkaaMatA
import Derived.Test.YtilaipdpbcfhkaaBytesW
import Derived.OpenShut
namespace Go.Proofs.Ytilaipdpbcfhkaa
set_option linter.unusedVariables false
open Go.RowKit Go.Mny
/-- the shares that are picked -/
def picks (sec : List Nat) (M : List (List Nat)) (qs : List Nat) : List (Nat × List Nat) := qs.map fun q => (q + 1, datN sec M (q + 1) sec.length)
theorem picks_snoc (sec : List Nat) (M : List (List Nat)) (qs : List Nat) (q : Nat) : picks sec M (qs ++ [q]) = picks sec M qs ++ [(q + 1, datN sec M (q + 1) sec.length)] := by simp [picks]
theorem picks_fst (sec : List Nat) (M : List (List Nat)) (qs : List Nat) : (picks sec M qs).map (·.1) = qs.map (· + 1) := by simp [picks]
theorem picks_snd (sec : List Nat) (M : List (List Nat)) (qs : List Nat) : (picks sec M qs).map (·.2) = (qs.map (· + 1)).map fun x => datN sec M x sec.length := by simp [picks]
theorem nodup_up {qs : List Nat} (h : qs.Nodup) : (qs.map (· + 1)).Nodup := List.Pairwise.map _ (fun a b hab => by omega) h
theorem nodup_snoc {qs : List Nat} {q : Nat} (h : qs.Nodup) (hq : ∀ j x : Nat, qs[j]? = some x → x ≠ q) : (qs ++ [q]).Nodup := by
  rw [List.nodup_append]
  refine ⟨h, by simp, fun a ha b hb => ?_⟩
  obtain ⟨j, hj, rfl⟩ := List.getElem_of_mem ha
  rw [List.mem_singleton] at hb
  subst hb
  exact hq j _ (List.getElem?_eq_getElem hj)
theorem take_snoc_map {l : List Int} {qs : List Nat} {i q : Nat} (h : l.take i = qs.map (fun x : Nat => (x : Int))) (hq : l[i]? = some (q : Int)) : l.take (i + 1) = (qs ++ [q]).map (fun x : Nat => (x : Int)) := by
  rw [List.take_add_one, hq, h]; simp
theorem row_int {w : World} {D n : Nat} {A : Option Addr} {l : List Int} {k : IntKind} (h : Row w D 1 A n (l.map (Value.int k))) {i : Nat} (hi : i < n) :
    ∃ (g o : Nat) (z : Int), A = some ⟨g, o, none⟩ ∧ g < D ∧ l[i]? = some z ∧ w.cell? ⟨g, o + i, none⟩ = some (.int k z) := by
  have hl : l.length = n := by have := h.len; rw [List.length_map] at this; omega
  obtain ⟨g, o, e1, e2, e3⟩ := h.cells (by omega)
  obtain ⟨x, hx⟩ : ∃ x, l[i]? = some x := ⟨_, List.getElem?_eq_getElem (by omega)⟩
  exact ⟨g, o, x, e1, e2, hx, by rw [e3 i (by rw [List.length_map]; omega), List.getElem?_map, hx]; rfl⟩
set_option maxHeartbeats 4000000 in
set_option maxRecDepth 100000 in
theorem shareEnough_walk (A0 : Option Addr) (n0 c0 : Nat) (l0 : List Int) (a1 : Int) (A2 : Option Addr) (n2 c2 m2 : Nat) (A3 : Option Addr) (n3 c3 : Nat) (l3 : List Int) (w : World) (b0 : n0 ≤ c0) (g0 : c0 ≤ maxLen) (r0 : Row w w.heap.size 1 A0 n0 (l0.map (Value.int .u8))) (f0 : ∀ z ∈ l0, (Lit.int .u8 z).wf = true) (f1 : (Lit.int .i64 a1).wf = true) (s2 : Sh.ok w w.heap.size (.slice 1 (.slice 1 (.int .u8))) m2 [.slice A2 n2 c2]) (b3 : n3 ≤ c3) (g3 : c3 ≤ maxLen) (r3 : Row w w.heap.size 1 A3 n3 (l3.map (Value.int .i64))) (f3 : ∀ z ∈ l3, (Lit.int .i64 z).wf = true) :
    Calls Try.prog 7 #[.slice A0 n0 c0, .int .i64 a1, .slice A2 n2 c2, .slice A3 n3 c3] w fun e w' => e = .returned (.bool true) ∧ Below w.heap.size w w' := by
  have hn2 : n2 ≤ 9223372036854775807 := by
    obtain ⟨A, n, c, es, f, hv, h1, h2, _⟩ := s2
    simp only [List.cons.injEq, Value.slice.injEq, and_true] at hv
    obtain ⟨_, rfl, rfl⟩ := hv
    unfold maxLen at h2; omega
  have hn0 : n0 ≤ 9223372036854775807 := by unfold maxLen at g0; omega
  have hn3 : n3 ≤ 9223372036854775807 := by unfold maxLen at g3; omega
  obtain ⟨A, n, c, M, hv, hc1, hM, m8, hm⟩ := Sh.mat s2
  injection hv with e1 e2 e3
  subst e1 e2 e3
  obtain ⟨q1, q2⟩ := nats_byt f0
  rw [q1] at r0
  obtain ⟨sec, hsec⟩ : ∃ b, l0.map Int.toNat = b := ⟨_, rfl⟩
  rw [hsec] at r0 q2
  have hsl : sec.length = n0 := by have := r0.len; rw [byt_len] at this; omega
  have R0 := hid r0; have R3 := hid r3; have HM := hid hM; have S8 := hid q2; have M8 := hid m8; have HSL := hid hsl
  clear s2 hM m8 hm hc1 f0 f1 f3 q1 q2 r0 r3 hsec hsl g0 g3 b0 b3
  obtain ⟨er, her⟩ : ∃ e, splitE n0 a1 M = e := ⟨_, rfl⟩
  have HER := hid her
  clear her
  go_enter Try.func7, Try.ntmps7
  go_wp2_with fail
  refine (split_fact _).mono ?_
  rintro e w1 ⟨rfl, hb1⟩
  have E1 := hid hb1
  clear hb1
  by_cases he : er = 0
  · have h := HER.out
    subst he
    unfold splitE at h
    have h1 : ¬ (a1 < 1 ∨ 20 < a1) := fun h' => by rw [if_pos h'] at h; cases h
    rw [if_neg h1] at h
    have h2 : ¬ (100 < n0 ∨ 20 < M.length) := fun h' => by rw [if_pos h'] at h; cases h
    rw [if_neg h2] at h
    have hml : M.length = n2 := by obtain ⟨_, _, h, _⟩ := unhid HM; exact h
    have h3 : (M.all fun m => decide (m.length = n0)) = true := by
      by_cases h' : (M.all fun m => decide (m.length = n0)) = true
      · exact h'
      · rw [if_neg h'] at h; cases h
    have h4 : Hid (∀ m ∈ M, m.length = n0) := hid fun m hm => of_decide_eq_true (List.all_eq_true.1 h3 m hm)
    obtain ⟨k, rfl⟩ := Int.eq_ofNat_of_zero_le (show 0 ≤ a1 by omega)
    have k1 : 1 ≤ k := by omega
    have k2 : k ≤ 20 := by omega
    have k3 : n0 ≤ 100 := by omega
    have k4 : n2 ≤ 20 := by omega
    have HML := hid hml
    have SS := hid (split_yes sec M A0 A2 n0 c0 n2 c2 _ k w1 ((unhid R0).below (unhid E1)) ((unhid HM).below (unhid E1)) (unhid E1).size S8.out M8.out k1 k2 k3 k4 h4.out)
    clear h h1 h2 h3 hml HER h4
    go_wp2_with fail
    refine (unhid SS).mono ?_
    rintro e w2 ⟨AY, cY, rfl, sY, hb2⟩
    have hyl := splitN_len sec M k
    have Y2 := hid (ShR.of_shs sY)
    have E2 := hid ((unhid E1).trans (hb2.mono (unhid E1).size))
    have z2 := hb2.size
    clear sY hb2 SS
    rw [hyl] at Y2 ⊢
    by_cases t1 : (n3 : Int) < (n2 : Int) + 1
    · clear z2
      go_wp2_with fail
      go_ret
      exact ⟨rfl, unhid E2⟩
    · by_cases t2 : (20 : Int) < (n3 : Int)
      · clear z2
        go_wp2_with fail
        go_ret
        exact ⟨rfl, unhid E2⟩
      have hs12 : w.heap.size ≤ w1.heap.size := (unhid E1).size
      go_wp2_with fail
      have HT12 : Hid (n2 + 1 ≤ n3 ∧ n3 ≤ 20) := hid (by omega)
      clear t1 t2
      go_loopw [12, 13] (fun v12 v13 wr => ∃ (i : Nat) (qs : List Nat) (AO : Option Addr) (cO : Nat), i ≤ n3 ∧ v13 = .int .i64 i ∧ v12 = .slice AO i cO ∧ Hid (Pik wr w2.heap.size 41 w2.heap.size AO i cO (picks sec M qs)) ∧ Hid (l3.take i = qs.map (fun x : Nat => (x : Int))) ∧ Hid (qs.Nodup) ∧ Hid (∀ q ∈ qs, q < k) ∧ Hid (Below w2.heap.size w2 wr)) (fun _ v13 _ => n3 - (intOf v13).toNat)
      case atStart => exact ⟨0, [], none, 0, Nat.zero_le _, rfl, rfl, Pik.none _ _ _ _, hid rfl, hid List.nodup_nil, hid (fun q hq => by cases hq), Below.refl _ _⟩
      case round =>
        obtain ⟨i, qs, AO, cO, hi, rfl, rfl, HO, HT, HN, HK, HB⟩ := hrel
        have hzb := (unhid HB).size
        by_cases hlt : i < n3
        · have i1 : (0 : Int) ≤ (i : Int) := by omega
          have i2 : (i : Int) < (n3 : Int) := by omega
          obtain ⟨g, o, z, rfl, hg, hz, hcz⟩ := row_int (unhid R3) hlt
          have hgw : g < w2.heap.size := by omega
          have HC3 : Hid (∀ W, Below w2.heap.size w2 W → W.cell? ⟨g, o + i, none⟩ = some (.int .i64 z)) := hid fun W hW => (hW.cell (p := ⟨g, o + i, none⟩) hgw).trans (((unhid E2).cell (p := ⟨g, o + i, none⟩) hg).trans hcz)
          have hcw := HC3.out _ (unhid HB)
          have HZ := hid hz
          clear hz hcz
          by_cases u1 : z < 0
          · clear HC3
            go_wp2_with fail
            go_ret
            exact ⟨rfl, (unhid E2).trans ((unhid HB).mono (unhid E2).size)⟩
          by_cases u2 : (k : Int) ≤ z
          · clear HC3
            go_wp2_with fail
            go_ret
            exact ⟨rfl, (unhid E2).trans ((unhid HB).mono (unhid E2).size)⟩
          · obtain ⟨q, rfl⟩ := Int.eq_ofNat_of_zero_le (show 0 ≤ z by omega)
            have hqk : q < k := by omega
            obtain ⟨wk, hwk⟩ : ∃ wk : World, wk = wr := ⟨_, rfl⟩
            rw [← hwk] at HO HB hzb hcw
            rw [← hwk]
            clear hwk
            have hql : qs.length = i := by
              have := congrArg List.length HT.out
              have hl3 : l3.length = n3 := by have := (unhid R3).len; rw [List.length_map] at this; omega
              rw [List.length_take, List.length_map, hl3] at this; omega
            have HQL := hid hql
            clear hql
            go_wp2_with fail
            have HQK := hid hqk
            clear hcw u1 u2 hqk
            go_loopw [14] (fun v14 wr => ∃ j : Nat, j ≤ i ∧ v14 = .int .i64 j ∧ Hid (∀ j' x : Nat, j' < j → qs[j']? = some x → x ≠ q) ∧ Hid (Below wk.heap.size wk wr)) (fun v14 _ => i - (intOf v14).toNat)
            case atStart => exact ⟨0, Nat.zero_le _, rfl, fun j' x h => absurd h (Nat.not_lt_zero _), Below.refl _ _⟩
            case round =>
              obtain ⟨j, hj, rfl, HD, HE⟩ := hrel
              have E3 := hid ((unhid HB).trans ((unhid HE).mono hzb))
              have hcw := HC3.out _ (unhid E3)
              by_cases hjl : j < i
              · have j1 : (0 : Int) ≤ (j : Int) := by omega
                have j2 : (j : Int) < (n3 : Int) := by omega
                have j3 : (j : Int) < (i : Int) := by omega
                obtain ⟨y, hy⟩ : ∃ y, qs[j]? = some y := ⟨_, List.getElem?_eq_getElem (by rw [HQL.out]; exact hjl)⟩
                have hly : l3[j]? = some (y : Int) := by
                  have h1 : (l3.take i)[j]? = some (y : Int) := by rw [HT.out, List.getElem?_map, hy]; rfl
                  rw [List.getElem?_take, if_pos hjl] at h1; exact h1
                obtain ⟨g', o', z', ea, hg', hz', hcz'⟩ := row_int (unhid R3) (show j < n3 by omega)
                injection ea with ea
                injection ea with ea1 ea2
                subst ea1 ea2
                rw [hly] at hz'
                injection hz' with hz'
                subst hz'
                have hcj : wr.cell? ⟨g, o + j, none⟩ = some (.int .i64 (y : Int)) := ((unhid E3).cell (p := ⟨g, o + j, none⟩) hgw).trans (((unhid E2).cell (p := ⟨g, o + j, none⟩) hg).trans hcz')
                have HY := hid hy
                clear hy hly hcz' HZ
                by_cases hyq : y = q
                · have t3 : ((y : Int) == (q : Int)) = true := by simp; omega
                  clear hyq
                  go_wp2_with fail
                  go_quiet (fail)
                  go_wp2_with fail
                  go_ret
                  exact ⟨rfl, ((unhid E2).trans ((unhid E3).mono (unhid E2).size)).drewN _⟩
                · have t3 : ((y : Int) == (q : Int)) = false := by simp; omega
                  have HYQ := hid hyq
                  clear hyq
                  go_wp2_with fail
                  go_quiet (fail)
                  go_wp2_with fail
                  have HD2 : Hid (∀ j' x : Nat, j' < j + 1 → qs[j']? = some x → x ≠ q) := hid fun j' x h hx => by
                    by_cases h' : j' = j
                    · rw [h', HY.out] at hx; injection hx with hx; rw [← hx]; exact HYQ.out
                    · exact HD.out j' x (by omega) hx
                  go_roundw
                  case rel =>
                    exact ⟨j + 1, by omega, by go_num, HD2, (unhid HE).drewN _⟩
                  case measure => simp [intOf]; omega
              · have j3 : ¬ (j : Int) < (i : Int) := by omega
                have hji : j = i := by omega
                have hqk := HQK.out
                subst hji
                have HOw := hid ((unhid HO).below hzb (unhid HE))
                have hzr := (unhid E3).size
                obtain ⟨gy, oy, Ay, cy, rfl, hgy, y0, y1, y2, y3⟩ := ((unhid Y2).below (unhid E3)).at hqk (x := q + 1) (d := datN sec M (q + 1) sec.length) (by unfold splitN; rw [List.getElem?_map, List.getElem?_range hqk]; rfl)
                rw [show ((q + 1 : Nat) : Int) = (q : Int) + 1 by omega] at y0
                obtain ⟨dl, hdl⟩ : ∃ dl, (datN sec M (q + 1) sec.length).length = dl := ⟨_, rfl⟩
                rw [hdl] at y1 y2 y3
                have HY2 := hid y2; have HY3 := hid y3; have HDL := hid hdl
                clear y2 y3 hdl hzb
                go_wp2_with (at_builtin; refine halt_at (fun K hK => ?_))
                refine go_on hK ?_; clear hK
                obtain ⟨es, ho, hl, he⟩ := unhid HOw
                have hes := ho.len
                refine app_step shareS rfl (.tmp 76) (.tmp 84) rfl rfl (ho.alloc _) rfl (Row.lit_full wr _ _ 1 2 wr.heap.size [.int .u8 ((q : Int) + 1), .slice Ay dl cy] rfl rfl rfl) (by intro u hu; simp at hu; rcases hu with rfl | rfl <;> rfl) (by have := HT12.out; simp [maxLen]; omega) (by have := HT12.out; omega) (by simp; omega) ?_
                intro A2 c2 w3 o3 g3 l3'
                have hb3 : Below w2.heap.size w2 w3 := Below.grown ((unhid E3).alloc hzr _) g3 (by simp; omega) (fun q hq => (ho.from_ q hq).1)
                have hbr : Below w2.heap.size wr w3 := Below.grown ((Below.refl _ _).alloc hzr _) g3 (by simp; omega) (fun q hq => (ho.from_ q hq).1)
                have hp3 := Pik.snoc (c' := cy) (A' := Ay) hes hl he hbr (q + 1) (datN sec M (q + 1) sec.length) (by rw [HDL.out]; exact HY2.out) (by rw [HDL.out]; exact unhid HY3) (by rw [HDL.out]; exact o3)
                rw [← picks_snoc] at hp3
                have HP3 := hid hp3; have HB3 := hid hb3
                have HT3 := hid (take_snoc_map HT.out HZ.out)
                have HN3 := hid (nodup_snoc HN.out (q := q) (fun j' x hx => HD.out j' x (by have := (List.getElem?_eq_some_iff.1 hx).1; rw [HQL.out] at this; exact this) hx))
                have HK3 : Hid (∀ x ∈ qs ++ [q], x < k) := hid fun x hx => by
                  rcases List.mem_append.1 hx with hx | hx
                  · exact HK.out x hx
                  · rw [List.mem_singleton] at hx; omega
                clear hp3 hb3 hbr o3 g3 l3' ho hl he hes HOw y0 y1 HY2 HY3 HDL hgy hzr E3 HD HE HC3
                go_wp2_with fail
                go_roundw
                case rel => exact ⟨j + 1, qs ++ [q], A2, c2, by omega, by go_num, rfl, HP3, HT3, HN3, HK3, HB3⟩
                case measure => simp [intOf]; omega
        · have hin : i = n3 := by omega
          subst hin
          have i2 : ¬ (i : Int) < (i : Int) := by omega
          have hl3 : l3.length = i := by have := (unhid R3).len; rw [List.length_map] at this; omega
          have hql : qs.length = i := by
            have := congrArg List.length HT.out
            rw [List.length_take, List.length_map, hl3] at this; omega
          have hTL := tells sec M (qs.map (· + 1)) (by intro x hx; obtain ⟨q, hq, rfl⟩ := List.mem_map.1 hx; have := HK.out q hq; omega) (nodup_up HN.out) S8.out M8.out (by have := HT12.out; rw [HML.out, List.length_map, hql]; omega)
          rw [List.length_map, hql, HSL.out] at hTL
          have JY := join_yes (picks sec M qs) AO i cO wr.heap.size n0 wr ((unhid HO).shr hzb) (Nat.le_refl _) (by have := HT12.out; omega) (by have := HT12.out; omega) (by omega) (by
            intro p hp
            obtain ⟨q, hq, rfl⟩ := List.mem_map.1 hp
            have := HK.out q hq
            refine ⟨?_, ?_, ?_, ?_⟩
            · show 1 ≤ q + 1; omega
            · show q + 1 < 256; omega
            · show (datN sec M (q + 1) sec.length).length = n0; rw [datN_len, HSL.out]
            · exact datN_by S8.out M8.out _ _) (by rw [picks_fst]; exact nodup_up HN.out)
          unfold JoinP at JY
          rw [picks_fst, picks_snd, HSL.out, hTL] at JY
          have HJ := hid JY
          have E3 := hid ((unhid E2).trans ((unhid HB).mono (unhid E2).size))
          clear JY hTL hql hl3
          go_wp2_with fail
          refine (unhid HJ).mono ?_
          rintro e w3 ⟨AJ, rfl, rJ, hb3⟩
          have hE3 := (unhid E3).size
          have E4 := hid ((unhid E3).trans (hb3.mono hE3))
          have RJ := hid rJ
          clear hb3 rJ HJ
          go_wp2_with fail
          have ra : Row w3 w3.heap.size 1 AJ n0 ((sec.map fun x : Nat => (x : Int)).map (Value.int .u8)) := by rw [List.map_map]; exact unhid RJ
          have rb : Row w3 w.heap.size 1 A0 n0 ((sec.map fun x : Nat => (x : Int)).map (Value.int .u8)) := by rw [List.map_map]; exact (unhid R0).below (unhid E4)
          refine (bytes_any _ _ _ _ _ _ _ _ _ _ _ ra rb (by omega) (by omega)).mono ?_
          rintro e w4 ⟨kk, rfl, rfl⟩
          rw [show decide ((sec.map fun x : Nat => (x : Int)) = (sec.map fun x : Nat => (x : Int))) = true by simp]
          have E5 := hid ((unhid E4).drewN kk)
          clear ra rb
          go_wp2_with fail
          go_ret
          exact ⟨rfl, unhid E5⟩
  · have NO := hid (split_no M A0 A2 n0 c0 n2 c2 _ a1 w1 ((unhid HM).below (unhid E1)) (by omega) (by rw [HER.out]; exact he))
    rw [HER.out] at NO
    clear he
    go_wp2_with fail
    refine (unhid NO).mono ?_
    rintro e w' ⟨rfl, rfl⟩
    go_wp2_with fail
    go_ret
    exact ⟨rfl, unhid E1⟩
end Go.Proofs.Ytilaipdpbcfhkaa
