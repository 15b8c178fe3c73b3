/- The walk of the reference's Mac. -/
import Derived.Test.YthpdpgjpkpkebaaDoorExpandW
import Derived.Test.YthpdpgjpkpkebaaDoorRefSumW
namespace Go.Proofs.YthpdpgjpkpkebaaDoor
set_option linter.unusedVariables false
open Go.RowKit Go.Mny
theorem keyX_take {k : List Nat} {x i : Nat} (h : i < 64) : (keyX k x).take i ++ [k.getD i 0 ^^^ x] = (keyX k x).take (i + 1) := by
  rw [List.take_add_one, keyX_get k x i h]; rfl
set_option maxHeartbeats 8000000 in
set_option maxRecDepth 100000 in
theorem rmac_any (key b : List Nat) (A A' : Option Addr) (n c n' c' D : Nat) (w : World) (hr : Row w D 1 A n (bytes key)) (hr' : Row w D 1 A' n' (bytes b)) (hD : D ≤ w.heap.size) (hn : n ≤ 140737488355000) (hn' : n' ≤ 140737488354000) (k8 : B8 key) (b8 : B8 b) :
    Calls Tryd.prog 18 #[.slice A n c, .slice A' n' c'] w fun e w' => e = .returned (.agg (cellsOf .u8 (up (macN key b)))) ∧ Below w.heap.size w w' := by
  have hkl : key.length = n := by have := hr.len; rw [bytes_len] at this; omega
  have hbl : b.length = n' := by have := hr'.len; rw [bytes_len] at this; omega
  have HR := hid hr; have HR' := hid hr'; have K8 := hid k8; have B8' := hid b8; have HKL := hid hkl; have HBL := hid hbl
  clear hr hr' k8 b8 hkl hbl
  go_enter Tryd.func18, Tryd.ntmps18
  go_wp2_with (with_reducible refine halt_op (some 4) (.alloc _) (fun K hK => ?_))
  refine go_on hK ?_; clear hK
  refine alloc_arr digT rfl rfl ?_
  rintro gd w1 hgd s1 b1 e1
  have hge : w.heap.size ≤ gd := by omega
  have hgd1 : gd < w1.heap.size := by omega
  have E1 := hid (e1.mono hge); have B1 := hid b1
  clear hgd e1 b1 s1
  by_cases hk : 64 < n
  case' pos =>
    go_wp2_with fail
    refine (rsum_any key A n c D _ ((unhid HR).below ((unhid E1).mono hD)) (by have := (unhid E1).size; omega) hn K8.out).mono ?_
    rintro e w2 ⟨rfl, hb2⟩
    have E2 := hid ((unhid E1).trans (hb2.mono (unhid E1).size))
    have B2 := hid ((unhid B1).below hb2 (by omega))
    have s2 := hb2.size
    clear hb2 E1 B1
    go_wp2_with (with_reducible refine halt_op (some 5) (.alloc _) (fun K hK => ?_))
    refine go_on hK ?_; clear hK
    refine alloc_arr digT rfl rfl ?_
    rintro g5 w3 hg5 s3 b3 e3
    refine store_arr digT (l := up (Sh2.sum key)) rfl (.tmp 5) (.tmp 15) rfl rfl rfl (sum_len_u _) b3 (by simp [cellsOf]) ?_
    intro w4 b4 g4
    have e4 : Below g5 w2 w4 := Below.grown (by rw [hg5]; rw [hg5] at e3; exact e3) g4 (by omega) (fun q hq => by injection hq with hq; omega)
    have EW := hid ((unhid E2).trans (e4.mono (by have := (unhid E2).size; omega)))
    have BD := hid ((unhid B2).below e4 (by have := (unhid B2).lt'; omega))
    have HRK := hid (show Row w4 w4.heap.size 1 (some ⟨g5, 0, none⟩) 32 (bytes (Sh2.sum key)) from by
      have := Row.of_blk b4
      rw [sum_len_u] at this
      exact this)
    have KM : Hid (macK key = Sh2.sum key) := hid (by unfold macK; rw [if_pos (by rw [HKL.out]; exact hk)])
    have KK8 : Hid (B8 (Sh2.sum key)) := hid (Sh2.sum_lt key)
    have KKL : Hid ((Sh2.sum key).length = 32) := hid (Sh2.sum_len key)
    have h64 : 32 ≤ 64 := by decide
    obtain ⟨W, hW⟩ : ∃ W : World, W = w4 := ⟨_, rfl⟩
    rw [← hW] at EW BD HRK
    rw [← hW]
    clear b3 e3 b4 g4 e4 hg5 s3 B2 E2 s2 hk hW
    generalize Sh2.sum key = KK at HRK KM KK8 KKL
    go_wp2_with fail
  case' neg =>
    have HRK := hid (((unhid HR).below ((unhid E1).mono hD)).more (D' := w1.heap.size) (by have := (unhid E1).size; omega))
    have KM : Hid (macK key = key) := hid (by unfold macK; rw [if_neg (by rw [HKL.out]; exact hk)])
    have KK8 := K8; have KKL := HKL
    have EW := E1; have BD := B1
    have h64 : n ≤ 64 := by omega
    clear E1 B1
    obtain ⟨KK, hKK⟩ : ∃ KK, key = KK := ⟨_, rfl⟩
    have KM : Hid (macK key = KK) := hid (KM.out.trans hKK)
    rw [hKK] at HRK KK8 KKL
    obtain ⟨W, hW⟩ : ∃ W : World, W = w1 := ⟨_, rfl⟩
    rw [← hW] at EW BD HRK
    rw [← hW]
    clear hKK hW
    go_wp2_with fail
  all_goals
    have hgdW : gd < W.heap.size := (unhid BD).lt'
    have hwW : w.heap.size ≤ W.heap.size := (unhid EW).size
    go_loopw [6, 7, 8] (fun v6 v7 v8 wr => ∃ (i : Nat) (AO AI : Option Addr) (cO cI : Nat), i ≤ 64 ∧ v8 = .int .i64 i ∧ v6 = .slice AO i cO ∧ v7 = .slice AI i cI ∧ Hid (Own wr W.heap.size 5 1 AO i cO (bytes ((keyX KK 92).take i))) ∧ Hid (Own wr W.heap.size 5 1 AI i cI (bytes ((keyX KK 54).take i))) ∧ Hid (∀ g, at_ AO = some g → at_ AI ≠ some g) ∧ Hid (Below W.heap.size W wr)) (fun _ _ v8 _ => 64 - (intOf v8).toNat)
    case atStart => exact ⟨0, none, none, 0, 0, Nat.zero_le _, rfl, rfl, rfl, hid (Own.none _ _ _ _), hid (Own.none _ _ _ _), hid (fun g h => by cases h), hid (Below.refl _ _)⟩
    case round =>
      obtain ⟨i, AO, AI, cO, cI, hi, rfl, rfl, rfl, HO, HI, HN, HB⟩ := hrel
      have bs := (unhid HB).size
      by_cases hlt : i < 64
      · have tO := keyX_take (k := KK) (x := 92) hlt
        have tI := keyX_take (k := KK) (x := 54) hlt
        have j0 : (0 : Int) ≤ (i : Int) := by omega
        have j1 : (i : Int) < 64 := by omega
        by_cases hik : (i : Int) < (KK.length : Int)
        · obtain ⟨g, o, x, hA, hg, hx, hc⟩ := Row.nat ((unhid HRK).below (unhid HB)) (i := i) (by have := (unhid HRK).len; rw [bytes_len] at this; omega)
          have hxk : KK.getD i 0 = x := by rw [List.getD_eq_getElem?_getD, hx]; rfl
          have hx8 : x < 256 := KK8.out x (List.mem_of_getElem? hx)
          have x92 : bits .xor .u8 (x : Int) 92 = ((x ^^^ 92 : Nat) : Int) := u8_xor_nat x 92 hx8 (by decide)
          have x54 : bits .xor .u8 (x : Int) 54 = ((x ^^^ 54 : Nat) : Int) := u8_xor_nat x 54 hx8 (by decide)
          rw [hxk] at tO tI
          have TO := hid tO; have TI := hid tI
          clear tO tI hx hxk
          first | subst hA | (injection hA with hA; injection hA with hA1 hA2; subst hA1; subst hA2)
          try simp only [Nat.zero_add] at hc
          try have hik2 : (i : Int) < 32 := by have := KKL.out; omega
          try have hik3 : (i : Int) < (n : Int) := by have := KKL.out; omega
          go_wp2_with (at_builtin; refine halt_at (fun K hK => ?_))
          refine go_on hK ?_; clear hK
          refine app_step bytesE rfl (.tmp 29) (.tmp 32) rfl rfl ((unhid HO).alloc _) rfl (Row.lit_at _ _ _ _ _ (bytes [x ^^^ 92]) rfl rfl rfl) (bytes_one _) (by simp [maxLen]; omega) (by omega) (by simp; omega) ?_
          intro A2 c2 w2 o2 g2 l2
          rw [← bytes_append, TO.out] at o2
          have k2 : Kept (fun j => at_ AO = some j) wr w2 := ((Kept.refl (fun j => at_ AO = some j) wr).alloc _).trans (Kept.of_grown g2) (fun j _ h => h)
          have b2 : Below W.heap.size W w2 := Below.grown ((unhid HB).alloc bs _) g2 (by simp; omega) (fun q hq => ((unhid HO).from_ q hq).1)
          have I2 := hid ((unhid HI).kept k2 (fun g hg h => HN.out g h hg))
          have N2 : Hid (∀ g, at_ A2 = some g → at_ AI ≠ some g) := hid fun g hg h => by
            rcases l2 with l2 | l2
            · exact HN.out g (l2 ▸ hg) h
            · have := ((unhid HI).from_ g h).2
              rw [l2] at hg; injection hg with hg; simp at hg; omega
          have O2 := hid o2; have B2 := hid b2
          have s2 := b2.size
          clear o2 b2 k2 g2 l2 HO HI HN HB
          go_wp2_with (at_builtin; refine halt_at (fun K hK => ?_))
          refine go_on hK ?_; clear hK
          refine app_step bytesE rfl (.tmp 34) (.tmp 37) rfl rfl ((unhid I2).alloc _) rfl (Row.lit_at _ _ _ _ _ (bytes [x ^^^ 54]) rfl rfl rfl) (bytes_one _) (by simp [maxLen]; omega) (by omega) (by simp; omega) ?_
          intro A3 c3 w3 o3 g3 l3
          rw [← bytes_append, TI.out] at o3
          have k3 : Kept (fun j => at_ AI = some j) w2 w3 := ((Kept.refl (fun j => at_ AI = some j) w2).alloc _).trans (Kept.of_grown g3) (fun j _ h => h)
          have b3 : Below W.heap.size W w3 := Below.grown ((unhid B2).alloc s2 _) g3 (by simp; omega) (fun q hq => ((unhid I2).from_ q hq).1)
          have O3 := hid ((unhid O2).kept k3 (fun g hg h => N2.out g hg h))
          have N3 : Hid (∀ g, at_ A2 = some g → at_ A3 ≠ some g) := hid fun g hg h => by
            rcases l3 with l3 | l3
            · exact N2.out g hg (l3 ▸ h)
            · have := ((unhid O2).from_ g hg).2
              rw [l3] at h; injection h with h; simp at h; omega
          have I3 := hid o3; have B3 := hid b3
          clear o3 b3 k3 g3 l3 O2 I2 N2 B2
          go_wp2_with (at_builtin; refine halt_at (fun K hK => ?_))
          go_roundw
          case rel => exact ⟨i + 1, A2, A3, c2, c3, by omega, by go_num, rfl, rfl, O3, I3, N3, B3⟩
          case measure => simp [intOf]; omega
        · have hxk : KK.getD i 0 = 0 := by rw [List.getD_eq_getElem?_getD, List.getElem?_eq_none (by omega)]; rfl
          have x92 : bits .xor .u8 0 92 = ((0 ^^^ 92 : Nat) : Int) := u8_xor_nat 0 92 (by decide) (by decide)
          have x54 : bits .xor .u8 0 54 = ((0 ^^^ 54 : Nat) : Int) := u8_xor_nat 0 54 (by decide) (by decide)
          rw [hxk] at tO tI
          have TO := hid tO; have TI := hid tI
          clear tO tI hxk
          try have hik2 : (32 : Int) ≤ (i : Int) := by have := KKL.out; omega
          try have hik3 : (n : Int) ≤ (i : Int) := by have := KKL.out; omega
          go_wp2_with (at_builtin; refine halt_at (fun K hK => ?_))
          refine go_on hK ?_; clear hK
          refine app_step bytesE rfl (.tmp 29) (.tmp 32) rfl rfl ((unhid HO).alloc _) rfl (Row.lit_at _ _ _ _ _ (bytes [0 ^^^ 92]) rfl rfl rfl) (bytes_one _) (by simp [maxLen]; omega) (by omega) (by simp; omega) ?_
          intro A2 c2 w2 o2 g2 l2
          rw [← bytes_append, TO.out] at o2
          have k2 : Kept (fun j => at_ AO = some j) wr w2 := ((Kept.refl (fun j => at_ AO = some j) wr).alloc _).trans (Kept.of_grown g2) (fun j _ h => h)
          have b2 : Below W.heap.size W w2 := Below.grown ((unhid HB).alloc bs _) g2 (by simp; omega) (fun q hq => ((unhid HO).from_ q hq).1)
          have I2 := hid ((unhid HI).kept k2 (fun g hg h => HN.out g h hg))
          have N2 : Hid (∀ g, at_ A2 = some g → at_ AI ≠ some g) := hid fun g hg h => by
            rcases l2 with l2 | l2
            · exact HN.out g (l2 ▸ hg) h
            · have := ((unhid HI).from_ g h).2
              rw [l2] at hg; injection hg with hg; simp at hg; omega
          have O2 := hid o2; have B2 := hid b2
          have s2 := b2.size
          clear o2 b2 k2 g2 l2 HO HI HN HB
          go_wp2_with (at_builtin; refine halt_at (fun K hK => ?_))
          refine go_on hK ?_; clear hK
          refine app_step bytesE rfl (.tmp 34) (.tmp 37) rfl rfl ((unhid I2).alloc _) rfl (Row.lit_at _ _ _ _ _ (bytes [0 ^^^ 54]) rfl rfl rfl) (bytes_one _) (by simp [maxLen]; omega) (by omega) (by simp; omega) ?_
          intro A3 c3 w3 o3 g3 l3
          rw [← bytes_append, TI.out] at o3
          have k3 : Kept (fun j => at_ AI = some j) w2 w3 := ((Kept.refl (fun j => at_ AI = some j) w2).alloc _).trans (Kept.of_grown g3) (fun j _ h => h)
          have b3 : Below W.heap.size W w3 := Below.grown ((unhid B2).alloc s2 _) g3 (by simp; omega) (fun q hq => ((unhid I2).from_ q hq).1)
          have O3 := hid ((unhid O2).kept k3 (fun g hg h => N2.out g hg h))
          have N3 : Hid (∀ g, at_ A2 = some g → at_ A3 ≠ some g) := hid fun g hg h => by
            rcases l3 with l3 | l3
            · exact N2.out g hg (l3 ▸ h)
            · have := ((unhid O2).from_ g hg).2
              rw [l3] at h; injection h with h; simp at h; omega
          have I3 := hid o3; have B3 := hid b3
          clear o3 b3 k3 g3 l3 O2 I2 N2 B2
          go_wp2_with (at_builtin; refine halt_at (fun K hK => ?_))
          go_roundw
          case rel => exact ⟨i + 1, A2, A3, c2, c3, by omega, by go_num, rfl, rfl, O3, I3, N3, B3⟩
          case measure => simp [intOf]; omega
      · have hi64 : i = 64 := by omega
        subst hi64
        have EWr := hid ((unhid EW).trans ((unhid HB).mono hwW))
        have BDr := hid ((unhid BD).below (unhid HB) hgdW)
        have hO : (keyX KK 92).take 64 = keyX KK 92 := List.take_of_length_le (by rw [keyX_len]; exact Nat.le_refl _)
        have hI : (keyX KK 54).take 64 = keyX KK 54 := List.take_of_length_le (by rw [keyX_len]; exact Nat.le_refl _)
        rw [hO] at HO
        rw [hI] at HI
        have RB := hid ((unhid HR').below ((unhid EWr).mono hD))
        have i8 : B8 (keyX KK 54 ++ b) := (keyX_B8 KK8.out 54 (by decide)).append B8'.out
        have o8 : B8 (keyX KK 92) := keyX_B8 KK8.out 92 (by decide)
        have hsr := (unhid EWr).size
        have mN : Hid (macN key b = Sh2.sum (keyX KK 92 ++ Sh2.sum (keyX KK 54 ++ b))) := hid (by unfold macN; rw [KM.out])
        obtain ⟨IB, hIB⟩ : ∃ IB, bytes (keyX KK 54) ++ bytes b = bytes IB ∧ keyX KK 54 ++ b = IB := ⟨_, (bytes_append _ _).symm, rfl⟩
        have HIB := hid hIB.1
        have i8' : B8 IB := by rw [← hIB.2]; exact i8
        rw [hIB.2] at mN
        have I8 := hid i8'
        clear hO hI i8 i8' hIB
        go_wp2_with (at_builtin; refine halt_at (fun K hK => ?_))
        refine go_on hK ?_; clear hK
        refine app_step bytesE rfl (.tmp 39) (.tmp 40) rfl rfl (unhid HI) rfl (unhid RB) (bytes_one _) (by simp [maxLen]; omega) (by omega) bs ?_
        intro A2 c2 w2 o2 g2 l2
        rw [HIB.out] at o2
        have k2 := Kept.of_grown g2
        have b2 : Below W.heap.size wr w2 := Below.grown (Below.refl _ _) g2 bs (fun q hq => ((unhid HI).from_ q hq).1)
        have HO2 := hid ((unhid HO).kept k2 (fun g h h' => HN.out g h h'))
        have E2 := hid ((unhid EWr).trans (b2.mono hwW)); have D2 := hid ((unhid BDr).below b2 hgdW)
        have O2 := hid o2
        have s2 := b2.size
        have hs2 : W.heap.size ≤ w2.heap.size := by omega
        clear o2 k2 b2 g2 l2 HO HI EWr BDr RB HN HB
        go_wp2_with fail
        refine (rsum_any IB A2 (64 + n') c2 w2.heap.size w2 (Row.of_own (unhid O2)) (Nat.le_refl _) (by omega) I8.out).mono ?_
        rintro e w3 ⟨rfl, hb3⟩
        have E3 := hid ((unhid E2).trans (hb3.mono (unhid E2).size)); have D3 := hid ((unhid D2).below hb3 (by omega)); have HO3 := hid ((unhid HO2).below hb3 (Nat.le_refl _))
        have s3 := hb3.size
        clear hb3 E2 D2 HO2 O2
        go_wp2_with (with_reducible refine halt_op (some 10) (.alloc _) (fun K hK => ?_))
        refine go_on hK ?_; clear hK
        refine alloc_arr digT rfl rfl ?_
        rintro g10 w4 hg10 s4 b4 e4
        refine store_arr digT (l := up (Sh2.sum IB)) rfl (.tmp 10) (.tmp 42) rfl rfl rfl (sum_len_u _) b4 (by simp [cellsOf]) ?_
        intro w5 b5 g5'
        have e5 : Below g10 w3 w5 := Below.grown (by rw [hg10]; rw [hg10] at e4; exact e4) g5' (by omega) (fun q hq => by injection hq with hq; omega)
        have E5 := hid ((unhid E3).trans (e5.mono (by have := (unhid E3).size; omega)))
        have D5 := hid ((unhid D3).below e5 (by have := (unhid D3).lt'; omega))
        have HO5 := hid ((unhid HO3).below e5 (by omega))
        have RS : Hid (Row w5 w5.heap.size 1 (some ⟨g10, 0, none⟩) 32 (bytes (Sh2.sum IB))) := hid (by have := Row.of_blk b5; rw [sum_len_u] at this; exact this)
        have s5 := e5.size
        clear b4 e4 b5 g5' e5 hg10 s4 E3 D3 HO3
        obtain ⟨DD, hDD⟩ : ∃ DD, Sh2.sum IB = DD := ⟨_, rfl⟩
        rw [hDD] at RS mN
        have d8 : B8 DD := by rw [← hDD]; exact Sh2.sum_lt _
        have hXB : bytes (keyX KK 92) ++ bytes DD = bytes (keyX KK 92 ++ DD) := (bytes_append _ _).symm
        obtain ⟨XB, hX⟩ : ∃ XB, keyX KK 92 ++ DD = XB := ⟨_, rfl⟩
        have x8 : B8 XB := by rw [← hX]; exact o8.append d8
        rw [hX] at hXB mN
        have HXB := hid hXB; have X8 := hid x8
        clear hDD d8 hXB hX x8 o8
        go_wp2_with (at_builtin; refine halt_at (fun K hK => ?_))
        refine go_on hK ?_; clear hK
        refine app_step bytesE rfl (.tmp 43) (.tmp 44) rfl rfl (unhid HO5) rfl (unhid RS) (bytes_one _) (by decide) (by decide) (by omega) ?_
        intro A6 c6 w6 o6 g6 l6
        rw [HXB.out] at o6
        have b6 : Below W.heap.size w5 w6 := Below.grown (Below.refl _ _) g6 (by omega) (fun q hq => ((unhid HO5).from_ q hq).1)
        have E6 := hid ((unhid E5).trans (b6.mono hwW)); have D6 := hid ((unhid D5).below b6 hgdW)
        have O6 := hid o6
        have s6 := b6.size
        clear o6 b6 g6 l6 E5 D5 HO5 RS
        go_wp2_with fail
        refine (rsum_any XB A6 96 c6 w6.heap.size w6 (Row.of_own (unhid O6)) (Nat.le_refl _) (by decide) X8.out).mono ?_
        rintro e w7 ⟨rfl, hb7⟩
        have E7 := hid ((unhid E6).trans (hb7.mono (unhid E6).size)); have D7 := hid ((unhid D6).below hb7 (by omega))
        clear hb7 E6 D6 O6
        go_wp2_with (with_reducible refine halt_op none (.store _ _ _) (fun K hK => ?_))
        refine go_on hK ?_; clear hK
        refine store_arr digT (l := up (Sh2.sum XB)) rfl (.tmp 4) (.tmp 46) rfl rfl rfl (sum_len_u _) (unhid D7) (by simp [cellsOf]) ?_
        intro w8 b8 g8
        have E8 := hid ((unhid E7).grown g8 (unhid E7).size (fun q hq => by injection hq with hq; omega))
        have B8r := hid b8
        clear b8 g8 E7 D7
        go_wp2
        refine bodyPost_ret (results_cell_row rfl _ _ gd _ (cellsOf .u8 (up (Sh2.sum XB))) (0, 0) _ rfl (unhid B8r) digT.under rfl (by rw [cellsOf_size, sum_len_u]; exact digT.size)) rfl ?_
        exact ⟨by rw [mN.out], unhid E8⟩
end Go.Proofs.YthpdpgjpkpkebaaDoor
