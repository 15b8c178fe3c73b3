/- The walk of mac.Mac. -/
import Derived.Test.YthpdpgjpkpkebaaDoorShaOfW
import Derived.Test.YthpdpgjpkpkebaaDoorHand
import Derived.Laws.BitsAllLaws
namespace Go.Proofs.YthpdpgjpkpkebaaDoor
set_option linter.unusedVariables false
open Go.RowKit Go.Mny
theorem blkT : ArrI Tryd.prog 60 5 64 .u8 := ⟨Tryd.underlying60, Tryd.underlying5, by kernel_rfl, by kernel_rfl, by kernel_rfl⟩
def macK (key : List Nat) : List Nat := if 64 < key.length then Sh2.sum key else key
def keyX (k : List Nat) (x : Nat) : List Nat := (List.range 64).map fun i => k.getD i 0 ^^^ x
def macN (key b : List Nat) : List Nat := Sh2.sum (keyX (macK key) 92 ++ Sh2.sum (keyX (macK key) 54 ++ b))
theorem keyX_len (k : List Nat) (x : Nat) : (keyX k x).length = 64 := by simp [keyX]
theorem keyX_get (k : List Nat) (x i : Nat) (hi : i < 64) : (keyX k x)[i]? = some (k.getD i 0 ^^^ x) := by
  rw [keyX, List.getElem?_map, List.getElem?_range hi]; rfl
theorem keyX_B8 {k : List Nat} (h : B8 k) (x : Nat) (hx : x < 256) : B8 (keyX k x) := by
  intro y hy
  obtain ⟨i, _, rfl⟩ := List.mem_map.1 hy
  refine Nat.xor_lt_two_pow (n := 8) ?_ hx
  rw [List.getD_eq_getElem?_getD]
  cases hq : k[i]? with
  | none => simp
  | some v => exact h v (List.mem_of_getElem? hq)
theorem macN_len (k b : List Nat) : (macN k b).length = 32 := Sh2.sum_len _
theorem macN_B8 (k b : List Nat) : B8 (macN k b) := Sh2.sum_lt _
theorem Row.nat {w : World} {D n : Nat} {A : Option Addr} {l : List Nat} (h : Row w D 1 A n (bytes l)) {i : Nat} (hi : i < n) :
    ∃ (g o x : Nat), A = some ⟨g, o, none⟩ ∧ g < D ∧ l[i]? = some x ∧ w.cell? ⟨g, o + i, none⟩ = some (.int .u8 (x : Nat)) := by
  have hl : l.length = n := by have := h.len; rw [bytes_len] at this; omega
  obtain ⟨g, o, e1, e2, e3⟩ := h.cells (by omega)
  refine ⟨g, o, l[i], e1, e2, List.getElem?_eq_getElem (by omega), ?_⟩
  rw [e3 i (by rw [bytes_len]; omega)]
  simp [bytes, up, List.getElem?_eq_getElem (show i < l.length by omega)]
def zero64 : List Nat := List.replicate 64 0
set_option maxHeartbeats 8000000 in
set_option maxRecDepth 100000 in
theorem mac_any (key b : List Nat) (A A' : Option Addr) (n c n' c' D : Nat) (w : World) (hr : Row w D 1 A n (bytes key)) (hr' : Row w D 1 A' n' (bytes b)) (hD : D ≤ w.heap.size) (hn : n ≤ 140737488355000) (hn' : n' ≤ 140737488354000) (k8 : B8 key) (b8 : B8 b) (hL : Laid w) (h0 : 0 < w.heap.size) :
    Calls Tryd.prog 15 #[.slice A n c, .slice A' n' c'] w fun e w' => e = .returned (.agg (cellsOf .u8 (up (macN key b)))) ∧ Below w.heap.size w w' := by
  have hkl : key.length = n := by have := hr.len; rw [bytes_len] at this; omega
  have hbl : b.length = n' := by have := hr'.len; rw [bytes_len] at this; omega
  have HR := hid hr; have HR' := hid hr'; have HL := hid hL; have K8 := hid k8; have B8' := hid b8; have HKL := hid hkl; have HBL := hid hbl
  clear hr hr' hL k8 b8 hkl hbl
  go_enter Tryd.func15, Tryd.ntmps15
  go_wp2_with (with_reducible refine halt_op (some 4) (.alloc _) (fun K hK => ?_))
  refine go_on hK ?_; clear hK
  refine alloc_arr digT rfl rfl ?_
  rintro gd w1 hgd s1 b1 e1
  have hge : w.heap.size ≤ gd := by omega
  have E1 := hid (e1.mono hge); have B1 := hid b1
  clear hgd e1 b1
  by_cases hk : 64 < n
  case' pos =>
    go_wp2_with fail
    refine (sum_any key A n c D _ ((unhid HR).below ((unhid E1).mono hD)) (by have := (unhid E1).size; omega) hn K8.out ((unhid HL).below (unhid E1) h0) (by omega)).mono ?_
    rintro e w2 ⟨rfl, hb2⟩
    have E2 := hid ((unhid E1).trans (hb2.mono (unhid E1).size))
    have B2 := hid ((unhid B1).below hb2 (by omega))
    have s2 := hb2.size
    clear hb2 E1 B1
    go_wp2_with (with_reducible refine halt_op (some 5) (.alloc _) (fun K hK => ?_))
    refine go_on hK ?_; clear hK
    refine alloc_arr digT rfl rfl ?_
    rintro g5 w3 hg5 s3 b3 e3
    refine store_arr digT (l := up (Sh2.sum key)) rfl (.tmp 5) (.tmp 16) rfl rfl rfl (sum_len_u _) b3 (by simp [cellsOf]) ?_
    intro w4 b4 g4
    have e4 : Below g5 w2 w4 := Below.grown (by rw [hg5]; rw [hg5] at e3; exact e3) g4 (by omega) (fun q hq => by injection hq with hq; omega)
    have EW := hid ((unhid E2).trans (e4.mono (by have := (unhid E2).size; omega)))
    have BD := hid ((unhid B2).below e4 (by have := (unhid B2).lt'; omega))
    have HRK := hid (show Row w4 w4.heap.size 1 (some ⟨g5, 0, none⟩) 32 (bytes (Sh2.sum key)) from by
      have := Row.of_blk b4
      rw [sum_len_u] at this
      exact this)
    have KM : Hid (macK key = Sh2.sum key) := hid (by unfold macK; rw [if_pos (by rw [HKL.out]; exact hk)])
    have KK8 : Hid (B8 (Sh2.sum key)) := hid (Sh2.sum_lt key)
    have KKL : Hid ((Sh2.sum key).length = 32) := hid (Sh2.sum_len key)
    have h64 : 32 ≤ 64 := by decide
    clear b3 e3 b4 g4 e4 hg5 s3 B2 E2 s2 hk
    generalize Sh2.sum key = KK at HRK KM KK8 KKL
    go_wp2_with (with_reducible refine halt_op (some 6) (.alloc _) (fun K hK => ?_))
  case' neg =>
    have HRK := hid (((unhid HR).below ((unhid E1).mono hD)).more (D' := w1.heap.size) (by have := (unhid E1).size; omega))
    have KM : Hid (macK key = key) := hid (by unfold macK; rw [if_neg (by rw [HKL.out]; exact hk)])
    have KK8 := K8; have KKL := HKL
    have EW := E1; have BD := B1
    have h64 : n ≤ 64 := by omega
    clear E1 B1
    obtain ⟨KK, hKK⟩ : ∃ KK, key = KK := ⟨_, rfl⟩
    have KM : Hid (macK key = KK) := hid (KM.out.trans hKK)
    rw [hKK] at HRK KK8 KKL
    clear hKK
    go_wp2_with (with_reducible refine halt_op (some 6) (.alloc _) (fun K hK => ?_))
  all_goals
    refine go_on hK ?_; clear hK
    refine alloc_arr blkT rfl rfl ?_
    rintro go w5 hgo s5 b5 e5
    refine alloc_arr blkT rfl rfl ?_
    rintro gi w6 hgi s6 b6 e6
    have hgoi : go < gi := by omega
    have hsW := (unhid EW).size
    have hgdl := (unhid BD).lt'
    have e56 := e5.trans (e6.mono (by omega))
    have hgod : gd < go := by omega
    have EA := hid ((unhid EW).trans (e56.mono (by omega)))
    have BA := hid ((unhid BD).below e56 hgod)
    have HRA := hid (((unhid HRK).more (D' := go) (by omega)).below e56)
    have BO := hid (b5.below e6 hgoi)
    have BI := hid b6
    have hgos : w.heap.size ≤ go := by omega
    clear b5 e5 b6 e6 e56 hgo hgi s5 s6 EW BD HRK hsW hgdl
    go_wp2_with fail
    go_loopw [18] (fun v18 wr => ∃ i : Nat, i ≤ 64 ∧ v18 = .int .i64 i ∧ Hid (Blk wr go 60 (cellsOf .u8 (up ((keyX KK 92).take i ++ zero64.drop i)))) ∧ Hid (Blk wr gi 60 (cellsOf .u8 (up ((keyX KK 54).take i ++ zero64.drop i)))) ∧ Hid (Below go w6 wr)) (fun v18 _ => 64 - (intOf v18).toNat)
    case atStart => exact ⟨0, Nat.zero_le _, rfl, BO, BI, hid (Below.refl _ _)⟩
    case round =>
      obtain ⟨i, hi, rfl, HO, HI, HF⟩ := hrel
      have hol := (unhid HO).lt'
      by_cases hlt : i < 64
      · have hzO := keyX_get KK 92 i hlt
        have hzI := keyX_get KK 54 i hlt
        have setO := hid (patchN_set (keyX_len KK 92) (show zero64.length = 64 from rfl) hlt hzO)
        have setI := hid (patchN_set (keyX_len KK 54) (show zero64.length = 64 from rfl) hlt hzI)
        have o1 : wr.cell? ⟨go, i, none⟩ = some (.int .u8 0) := by
          rw [(unhid HO).cell, cellsOf_get, up_get, patchN_at (keyX_len KK 92) (show zero64.length = 64 from rfl) hlt, zero64, List.getElem?_replicate, if_pos hlt]; rfl
        have i1 : wr.cell? ⟨gi, i, none⟩ = some (.int .u8 0) := by
          rw [(unhid HI).cell, cellsOf_get, up_get, patchN_at (keyX_len KK 54) (show zero64.length = 64 from rfl) hlt, zero64, List.getElem?_replicate, if_pos hlt]; rfl
        have o2 : wr.frozen? ⟨go, i, none⟩ = false := (unhid HO).free i
        have i2 : wr.frozen? ⟨gi, i, none⟩ = false := (unhid HI).free i
        have hne : (gi == go) = false := by simp; omega
        have j0 : (0 : Int) ≤ (i : Int) := by omega
        have j1 : (i : Int) < 64 := by omega
        clear hzO hzI
        by_cases hik : (i : Int) < (KK.length : Int)
        · obtain ⟨g, o, x, hA, hg, hx, hc⟩ := Row.nat ((unhid HRA).below (unhid HF)) (i := i) (by have := (unhid HRA).len; rw [bytes_len] at this; omega)
          have hxk : KK.getD i 0 = x := by rw [List.getD_eq_getElem?_getD, hx]; rfl
          have hx8 : x < 256 := KK8.out x (List.mem_of_getElem? hx)
          have x92 : bits .xor .u8 (x : Int) 92 = ((x ^^^ 92 : Nat) : Int) := u8_xor_nat x 92 hx8 (by decide)
          have x54 : bits .xor .u8 (x : Int) 54 = ((x ^^^ 54 : Nat) : Int) := u8_xor_nat x 54 hx8 (by decide)
          rw [hxk] at setO setI
          have HSO := setO; have HSI := setI
          clear setO setI hx hxk
          first | subst hA | (injection hA with hA; injection hA with hA1 hA2; subst hA1; subst hA2)
          try simp only [Nat.zero_add] at hc
          try have hik2 : (i : Int) < 32 := by have := KKL.out; omega
          try have hik3 : (i : Int) < (n : Int) := by have := KKL.out; omega
          go_wp2_with fail
          go_roundw
          case rel =>
            refine ⟨i + 1, by omega, by go_num, hid ?_, hid ?_, hid (((unhid HF).setCell (p := ⟨go, i, none⟩) (Nat.le_refl go) _).setCell (p := ⟨gi, i, none⟩) (by show go ≤ gi; omega) _)⟩
            · have := (((unhid HO).put i (.int .u8 ((x ^^^ 92 : Nat) : Int))).far (p := ⟨gi, i, none⟩) (by show go ≠ gi; omega) (.int .u8 ((x ^^^ 54 : Nat) : Int)))
              rw [cellsOf_set, up_set, HSO.out] at this
              exact this
            · have := ((unhid HI).far (p := ⟨go, i, none⟩) (by show gi ≠ go; omega) (.int .u8 ((x ^^^ 92 : Nat) : Int))).put i (.int .u8 ((x ^^^ 54 : Nat) : Int))
              rw [cellsOf_set, up_set, HSI.out] at this
              exact this
          case measure => simp [intOf]; omega
        · have hxk : KK.getD i 0 = 0 := by rw [List.getD_eq_getElem?_getD, List.getElem?_eq_none (by omega)]; rfl
          have x92 : bits .xor .u8 0 92 = ((0 ^^^ 92 : Nat) : Int) := u8_xor_nat 0 92 (by decide) (by decide)
          have x54 : bits .xor .u8 0 54 = ((0 ^^^ 54 : Nat) : Int) := u8_xor_nat 0 54 (by decide) (by decide)
          rw [hxk] at setO setI
          have HSO := setO; have HSI := setI
          clear setO setI hxk
          try have hik2 : (32 : Int) ≤ (i : Int) := by have := KKL.out; omega
          try have hik3 : (n : Int) ≤ (i : Int) := by have := KKL.out; omega
          go_wp2_with fail
          go_roundw
          case rel =>
            refine ⟨i + 1, by omega, by go_num, hid ?_, hid ?_, hid (((unhid HF).setCell (p := ⟨go, i, none⟩) (Nat.le_refl go) _).setCell (p := ⟨gi, i, none⟩) (by show go ≤ gi; omega) _)⟩
            · have := (((unhid HO).put i (.int .u8 ((0 ^^^ 92 : Nat) : Int))).far (p := ⟨gi, i, none⟩) (by show go ≠ gi; omega) (.int .u8 ((0 ^^^ 54 : Nat) : Int)))
              rw [cellsOf_set, up_set, HSO.out] at this
              exact this
            · have := ((unhid HI).far (p := ⟨go, i, none⟩) (by show gi ≠ go; omega) (.int .u8 ((0 ^^^ 92 : Nat) : Int))).put i (.int .u8 ((0 ^^^ 54 : Nat) : Int))
              rw [cellsOf_set, up_set, HSI.out] at this
              exact this
          case measure => simp [intOf]; omega
      · have hi64 : i = 64 := by omega
        subst hi64
        have hO : (keyX KK 92).take 64 ++ zero64.drop 64 = keyX KK 92 := by
          rw [List.take_of_length_le (by rw [keyX_len]; exact Nat.le_refl _), List.drop_of_length_le (by decide), List.append_nil]
        have hI : (keyX KK 54).take 64 ++ zero64.drop 64 = keyX KK 54 := by
          rw [List.take_of_length_le (by rw [keyX_len]; exact Nat.le_refl _), List.drop_of_length_le (by decide), List.append_nil]
        rw [hO] at HO
        rw [hI] at HI
        have s6w := (unhid EA).size
        have EB := hid ((unhid EA).trans ((unhid HF).mono hgos))
        have BB := hid ((unhid BA).below (unhid HF) hgod)
        clear hO hI HF EA BA HRA BO BI s6w
        go_wp2_with fail
        refine (new_any _).mono ?_
        rintro e w7 ⟨gh, rfl, q1, q2, hbk, hb7⟩
        have hghi : gi < gh := by have := (unhid HI).lt'; omega
        have sEB := (unhid EB).size
        have H7 := hid (Hsh.new hbk)
        have E7 := hid ((unhid EB).trans (hb7.mono sEB))
        have O7 := hid ((unhid HO).below hb7 (by omega))
        have I7 := hid ((unhid HI).below hb7 (by have := (unhid HI).lt'; omega))
        have D7 := hid ((unhid BB).below hb7 (by have := (unhid HI).lt'; omega))
        clear hb7 hbk EB HO HI BB sEB
        go_wp2_with fail
        have k54 := keyX_B8 KK8.out 54 (by decide)
        have RI := Row.of_blk (unhid I7)
        rw [up_len, keyX_len] at RI
        refine (write_any gh [] (keyX KK 54) none (some ⟨gi, 0, none⟩) 0 64 64 _ _ (unhid H7) RI (Nat.le_refl _) (fun q hq hd => by have h : gi = q := Option.some.inj hq; omega) (by simp) (by rw [List.nil_append]; exact k54) ((unhid HL).below (unhid E7) h0) (by omega)).mono ?_
        rintro e w8 ⟨rfl, A3, c3, H8, K8', N8⟩
        rw [List.nil_append] at H8
        have k8 : Kept (fun j => j = gh) w7 w8 := K8'.weak (fun j _ h => h.elim id (fun h => by cases h))
        have HH8 := hid H8
        have E8 := hid ((unhid E7).trans (k8.below (unhid E7).size (fun j hj (h : j = gh) => by omega)))
        have O8 := hid ((unhid O7).kept k8 (by omega))
        have D8 := hid ((unhid D7).kept k8 (by omega))
        clear H8 K8' N8 k8 RI I7 H7 E7 O7 D7
        go_wp2_with fail
        refine (write_any gh (keyX KK 54) b A3 A' c3 n' c' D _ (unhid HH8) ((unhid HR').below ((unhid E8).mono hD)) (by have := (unhid E8).size; omega) (fun q hq hd => by omega) (by rw [keyX_len]; omega) (k54.append B8'.out) ((unhid HL).below (unhid E8) h0) (by omega)).mono ?_
        rintro e w9 ⟨rfl, A4, c4, H9, K9, N9⟩
        have hat : ∀ j, at_ A3 = some j → gh < j := fun j hj => ((unhid HH8).at_ne j hj).1
        have HH9 := hid H9
        have E9 := hid ((unhid E8).trans (K9.below (unhid E8).size (fun j hj h => h.elim (fun h => by omega) (fun h => by have := hat j h; omega))))
        have O9 := hid ((unhid O8).kept K9 (fun h => h.elim (fun h => by omega) (fun h => by have := hat _ h; omega)))
        have D9 := hid ((unhid D8).kept K9 (fun h => h.elim (fun h => by omega) (fun h => by have := hat _ h; omega)))
        clear H9 K9 N9 HH8 E8 O8 D8 hat
        go_wp2_with fail
        refine (hsum_any gh (keyX KK 54 ++ b) A4 c4 _ (unhid HH9) (by rw [List.length_append, keyX_len, HBL.out]; omega) (k54.append B8'.out) ((unhid HL).below (unhid E9) h0) (by omega)).mono ?_
        rintro e w10 ⟨rfl, hb10⟩
        have E10 := hid ((unhid E9).trans (hb10.mono (unhid E9).size))
        have O10 := hid ((unhid O9).below hb10 (unhid O9).lt')
        have D10 := hid ((unhid D9).below hb10 (unhid D9).lt')
        clear hb10 E9 O9 D9 HH9 k54
        go_wp2_with (with_reducible refine halt_op (some 11) (.alloc _) (fun K hK => ?_))
        refine go_on hK ?_; clear hK
        refine alloc_arr digT rfl rfl ?_
        rintro g11 w11 hg11 s11 b11 e11
        refine store_arr digT (l := up (Sh2.sum (keyX KK 54 ++ b))) rfl (.tmp 11) (.tmp 46) rfl rfl rfl (sum_len_u _) b11 (by simp [cellsOf]) ?_
        intro w12 b12 g12
        have e12 : Below g11 w10 w12 := Below.grown (by rw [hg11]; rw [hg11] at e11; exact e11) g12 (by omega) (fun q hq => by injection hq with hq; omega)
        have hgo11 : go < g11 := by have := (unhid O10).lt'; omega
        have E11 := hid ((unhid E10).trans (e12.mono (by have := (unhid E10).size; omega)))
        have O11 := hid ((unhid O10).below e12 hgo11)
        have D11 := hid ((unhid D10).below e12 (by omega))
        have RO : Hid (Row w12 w12.heap.size 1 (some ⟨go, 0, none⟩) 64 (bytes (keyX KK 92))) := hid (by have := Row.of_blk (unhid O11); rw [up_len, keyX_len] at this; exact this)
        have RS : Hid (Row w12 w12.heap.size 1 (some ⟨g11, 0, none⟩) 32 (bytes (Sh2.sum (keyX KK 54 ++ b)))) := hid (by have := Row.of_blk b12; rw [sum_len_u] at this; exact this)
        clear b11 e11 b12 g12 e12 hg11 s11 E10 O10 D10
        go_wp2_with fail
        refine wp_region_held_drew (S := fun _ => True) (by kernel_rfl) trivial (fun hS => ?_)
        refine wpAnyH_take (i := 0) (oi := { dst := some 47, op := Op.slice 60 (Operand.tmp 6) none none none, type := 22, pos := "mac.go:27", after := #[], guard := none }) (v := .slice (some ⟨go, 0, none⟩) 64 64) rfl (by kernel_rfl) (by kernel_rfl) (by kernel_rfl) (fun _ _ _ h => h) (yields_of rfl (fun w => by go_simp)) hS ?_
        try simp only [Act.put, List.setIfInBounds_toArray, List.set_cons_zero, List.set_cons_succ]
        refine wpAnyH_take (i := 1) (oi := { dst := some 48, op := Op.slice 25 (Operand.tmp 11) none none none, type := 22, pos := "mac.go:27", after := #[], guard := none }) (v := .slice (some ⟨g11, 0, none⟩) 32 32) rfl (by kernel_rfl) (by kernel_rfl) (by kernel_rfl) (fun _ _ _ h => h) (yields_of rfl (fun w => by go_simp)) hS ?_
        try simp only [Act.put, List.setIfInBounds_toArray, List.set_cons_zero, List.set_cons_succ]
        refine wpAnyH_ready (rs := [2]) (by kernel_rfl) (by simp) ?_
        refine AllReadyH.cons (o := { dst := some 49, op := Op.call { callee := Callee.builtin Builtin.append, args := #[Operand.tmp 47, Operand.tmp 48], argTypes := #[22, 22] }, type := 22, pos := "mac.go:27", after := #[{ on := 0, ground := Ground.data }, { on := 1, ground := Ground.data }], guard := none }) rfl (fun K hK => ?_) AllReadyH.nil
        rw [if_pos (by rfl)]
        refine app_full_wp bytesE (.tmp 47) (.tmp 48) rfl rfl (RO.out.drew) (bytes_one _) rfl (RS.out.drew) (bytes_one _) (by decide) (by decide) (by decide) ?_
        intro g17 c17 w17 o17 e17
        have E17 := hid ((unhid E11).drew.trans (e17.mono (by have := (unhid E11).size; exact this)))
        have D17 := hid ((unhid D11).drew.below e17 (unhid D11).lt')
        have O17 := hid o17
        clear o17 e17
        refine hK.out _ _ trivial (fun hS1 => ?_)
        try simp only [Act.put, List.setIfInBounds_toArray, List.set_cons_zero, List.set_cons_succ]
        refine wpAnyH_ready (rs := [3]) (by kernel_rfl) (by simp) ?_
        refine AllReadyH.cons (o := { dst := some 50, op := Op.call { callee := Callee.value (Operand.func 10), args := #[Operand.tmp 49], argTypes := #[22] }, type := 25, pos := "mac.go:27", after := #[{ on := 2, ground := Ground.data }, { on := 2, ground := Ground.chain }], guard := none }) rfl (fun K hK => ?_) AllReadyH.nil
        go_simp
        refine (sum_any (keyX KK 92 ++ Sh2.sum (keyX KK 54 ++ b)) _ 96 c17 _ _ (by rw [bytes_append]; exact Row.of_own (unhid O17)) (Nat.le_refl _) (by omega) ((keyX_B8 KK8.out 92 (by decide)).append (Sh2.sum_lt _)) ((unhid HL).below (unhid E17) h0) (by have := (unhid E17).size; omega)).mono ?_
        rintro e w18 ⟨rfl, hb18⟩
        have D18 := hid ((unhid D17).below hb18 (unhid D17).lt')
        have E18 := hid ((unhid E17).trans (hb18.mono (unhid E17).size))
        clear hb18
        go_wp2_with fail
        refine hK.out _ _ trivial (fun hS2 => ?_)
        try simp only [Act.put, List.setIfInBounds_toArray, List.set_cons_zero, List.set_cons_succ]
        refine wpAnyH_ready (rs := [4]) (by kernel_rfl) (by simp) ?_
        refine AllReadyH.cons (o := { dst := none, op := Op.store 25 (Operand.tmp 4) (Operand.tmp 50), type := 0, pos := "mac.go:27", after := #[{ on := 3, ground := Ground.data }, { on := 3, ground := Ground.chain }, { on := 0, ground := Ground.phase }, { on := 1, ground := Ground.phase }, { on := 2, ground := Ground.phase }, { on := 3, ground := Ground.phase }], guard := none }) rfl (fun K hK => ?_) AllReadyH.nil
        rw [if_pos (by rfl)]
        refine store_arr_wp digT (l := up (Sh2.sum (keyX KK 92 ++ Sh2.sum (keyX KK 54 ++ b)))) (.tmp 4) (.tmp 50) rfl rfl rfl (sum_len_u _) (unhid D18) (by simp [cellsOf]) ?_
        intro w19 b19 g19
        have B19 := hid b19; have E19 := hid ((unhid E18).grown g19 (unhid E18).size (fun q hq => by injection hq with hq; omega)); clear b19 g19
        refine hK.out _ _ trivial (fun hS3 => ?_)
        refine wpAnyH_done (by kernel_rfl) ?_ _
        go_wp2
        have hfin : macN key b = Sh2.sum (keyX KK 92 ++ Sh2.sum (keyX KK 54 ++ b)) := by unfold macN; rw [KM.out]
        exact bodyPost_ret (results_cell_row rfl _ _ gd _ (cellsOf .u8 (up (Sh2.sum (keyX KK 92 ++ Sh2.sum (keyX KK 54 ++ b))))) (0, 0) _ rfl (unhid B19) digT.under rfl (by rw [cellsOf_size, sum_len_u]; exact digT.size)) rfl ⟨by rw [hfin], unhid E19⟩
end Go.Proofs.YthpdpgjpkpkebaaDoor
