/- The walk of the law LotFair. -/
import Derived.Test.YtilaipdpbcfhkaaMixW
import Derived.Deep.RegionHeld3
namespace Go.Proofs.Ytilaipdpbcfhkaa
set_option linter.unusedVariables false
open Go.RowKit Go.Mny
theorem xi_right (x y z : Int) : xi (xi x y) z = xi (xi x z) y := by
  unfold xi
  rw [Int.toNat_natCast, Int.toNat_natCast, Nat.xor_assoc, Nat.xor_comm y.toNat, ← Nat.xor_assoc]
theorem zip_right (o d b : List Int) : List.zipWith xi (List.zipWith xi o d) b = List.zipWith xi (List.zipWith xi o b) d := by
  refine List.ext_getElem? fun i => ?_
  simp only [List.getElem?_zipWith]
  cases o[i]? <;> cases d[i]? <;> cases b[i]? <;> simp [xi_right]
theorem fold_right : ∀ (B : List (List Int)) (o d : List Int), B.foldl (List.zipWith xi) (List.zipWith xi o d) = List.zipWith xi (B.foldl (List.zipWith xi) o) d
  | [], _, _ => rfl
  | b :: B, o, d => by rw [List.foldl_cons, List.foldl_cons, zip_right, fold_right B]
theorem zip_zeros {o : List Int} (hl : o.length = 32) (h8 : By8 o) : List.zipWith xi o zeros = o := by
  refine List.ext_getElem (by rw [zip_len hl (by simp [zeros]), hl]) fun i h1 h2 => ?_
  rw [List.getElem_zipWith]
  have := h8 o[i] (List.getElem_mem _)
  have e : ∀ h, zeros[i]'h = 0 := fun h => (List.mem_replicate.1 (List.getElem_mem h)).2
  rw [e]
  generalize o[i] = x at this ⊢
  unfold xi
  rw [show (0 : Int).toNat = 0 from rfl, Nat.xor_zero]; omega
theorem mix_set {L : List (List Int)} {k : Nat} (hk : k < L.length) (h8 : ∀ l ∈ L, l.length = 32 ∧ By8 l) (d : List Int) : mixL (L.set k d) = List.zipWith xi (mixL (L.set k zeros)) d := by
  have e : ∀ x, L.set k x = L.take k ++ x :: L.drop (k + 1) := fun x => by rw [List.set_eq_take_append_cons_drop, if_pos hk]
  obtain ⟨m1, m2⟩ := mix_ok (L.take k) zeros (fun l hl => h8 l (List.mem_of_mem_take hl)) (by simp [zeros]) zeros_by
  unfold mixL
  rw [e, e, List.foldl_append, List.foldl_append, List.foldl_cons, List.foldl_cons, zip_zeros m1 m2, fold_right]
theorem zip_twice {r d : List Int} (hr : r.length = 32) (hd : d.length = 32) (h8 : By8 d) : List.zipWith xi r (List.zipWith xi r d) = d := by
  refine List.ext_getElem (by rw [zip_len hr (zip_len hr hd), hd]) fun i h1 h2 => ?_
  rw [List.getElem_zipWith, List.getElem_zipWith]
  have := h8 d[i] (List.getElem_mem _)
  unfold xi
  rw [Int.toNat_natCast, ← Nat.xor_assoc, Nat.xor_self, Nat.zero_xor]; omega
theorem zip_iff {r d e : List Int} (hr : r.length = 32) (hd : d.length = 32) (h8 : By8 d) (he : e.length = 32) (e8 : By8 e) : List.zipWith xi r e = d ↔ e = List.zipWith xi r d := by
  constructor
  · rintro rfl; rw [zip_twice hr he e8]
  · rintro rfl; rw [zip_twice hr hd h8]
def lead (x : Int) : List Int := x :: List.replicate 31 0
theorem digsE : Elt Try.prog 22 24 32 32 := Elt.of Try.underlying22 (.agg (Array.replicate 32 (.int .u8 0))) (by kernel_rfl) (by simp [Value.cells]) (by decide)
set_option maxHeartbeats 1000000 in
set_option maxRecDepth 100000 in
theorem lotFair_walk (A0 : Option Addr) (n0 c0 m0 : Nat) (a1 : Int) (l2 : List Int) (l3 : List Int) (w : World) (s0 : Sh.ok w w.heap.size (.slice 32 (.arr 32 1 (.int .u8))) m0 [.slice A0 n0 c0]) (f1 : (Lit.int .i64 a1).wf = true) (q2 : l2.length = 32) (f2 : ∀ z ∈ l2, (Lit.int .u8 z).wf = true) (q3 : l3.length = 32) (f3 : ∀ z ∈ l3, (Lit.int .u8 z).wf = true) (rb0 : n0 * 32 ≤ 140737488351232) :
    Calls Try.prog 3 #[.slice A0 n0 c0, .int .i64 a1, .agg (l2.map (Value.int .u8)).toArray, .agg (l3.map (Value.int .u8)).toArray] w fun e w' => e = .returned (.bool true) ∧ Below w.heap.size w w' := by
  obtain ⟨A, n, c, L, hv, hc1, hc2, hR, hL, h8, hm⟩ := Sh.digests s0
  injection hv with e1 e2 e3
  subst e1 e2 e3
  have v1 := bounds_i64 f1
  have W8 := hid (By8.of_wf f2); have O8 := hid (By8.of_wf f3)
  have WL := hid q2; have OL := hid q3
  have H := hid hR; have HL := hid hL; have H8 := hid (show ∀ l ∈ L, l.length = 32 ∧ By8 l from fun l hl => ⟨(h8 l hl).1, By8.of_wf (h8 l hl).2⟩)
  have hn : n0 ≤ 4398046510976 := by omega
  clear s0 hR hL h8 f1 f2 f3 q2 q3 hm rb0 hc2
  change Calls _ _ #[_, _, .agg (cellsOf .u8 l2), .agg (cellsOf .u8 l3)] _ _
  go_enter Try.func3, Try.ntmps3
  go_wp2_with (with_reducible refine halt_op (some 6) (.box _ _) (fun K hK => ?_))
  refine go_on hK ?_; clear hK
  refine box_arr (k := .u8) (l := l2) rfl (.tmp 2) rfl rfl ?_
  rintro g1 w1 rfl s1 b1 e1
  refine box_arr (k := .u8) (l := l3) rfl (.tmp 3) rfl rfl ?_
  rintro g2 w2 hg2 s2 b2 e2
  rw [s1] at hg2; subst hg2
  have BW := hid (b1.below e2 (by omega)); have BO := hid b2
  have BE := hid (e1.trans (e2.mono (by omega)))
  clear b1 b2 e1 e2
  go_wp2_with fail
  have mfact : mixL [lead 5, lead 3] = lead 6 := by decide +kernel
  have lead8 : ∀ l ∈ [lead 5, lead 3], l.length = 32 ∧ By8 l := by
    intro l hl
    have : l = lead 5 ∨ l = lead 3 := by simpa using hl
    rcases this with rfl | rfl <;> exact ⟨rfl, fun z hz => by rcases List.mem_cons.1 hz with rfl | h; · omega
                                                              · have := (List.mem_replicate.1 h).2; omega⟩
  refine (mix_any _ 2 2 [lead 5, lead 3] _ (Row.lit_full w2 _ _ 2 32 _ (([lead 5, lead 3]).flatten.map (Value.int .u8)) s2.symm rfl rfl) rfl lead8 (by omega)).mono ?_
  rintro e w3 ⟨rfl, hb3⟩
  rw [mfact]
  clear lead8 mfact
  have BE3 := hid ((unhid BE).trans ((Below.alloc (Below.refl _ _) (by omega) _).trans (hb3.mono (by simp; omega))))
  go_wp2_with (with_reducible refine halt_op (some 9) (.alloc _) (fun K hK => ?_))
  refine go_on hK ?_; clear hK
  have ll : (lead 6).length = 32 := rfl
  have hBW3 := hid ((unhid BW).below (Below.trans (Below.alloc (Below.refl _ _) (Nat.le_refl _) _) (hb3.mono (by simp))) (by omega))
  have hBO3 := hid ((unhid BO).below (Below.trans (Below.alloc (Below.refl _ _) (Nat.le_refl _) _) (hb3.mono (by simp))) (by omega))
  clear BW BO BE hb3
  refine alloc_arr digestT rfl rfl ?_
  rintro g9 w4 hg9 s4 b4 e4
  refine store_arr digestT (l := lead 6) rfl (.tmp 9) (.tmp 17) rfl rfl rfl ll b4 (by simp [cellsOf]) ?_
  intro w5 b5 g5
  have sz3 := (unhid BE3).size
  have e5 : Below g9 w3 w5 := Below.grown e4 g5 (by omega) (fun q hq => by injection hq with hq; omega)
  have lw3 := (unhid hBO3).lt'
  have BW5 := hid ((unhid hBW3).below e5 (by omega))
  have BO5 := hid ((unhid hBO3).below e5 (by omega))
  have BE5 := hid ((unhid BE3).trans (e5.mono (by omega)))
  have B9 := hid b5
  clear b4 b5 e4 e5 g5 s4 hg9 hBW3 hBO3 BE3
  go_wp2_with (with_reducible refine halt_op (some 18) (.load _ _) (fun K hK => ?_))
  refine go_on hK ?_; clear hK
  refine load_arr digestT (l := lead 6) rfl (.tmp 9) rfl rfl (unhid B9) ll ?_
  go_wp2_with (with_reducible refine halt_op (some 20) (.binOp _ _ _ _ _) (fun K hK => ?_))
  refine go_on hK ?_; clear hK
  refine neq_arr digestT (l1 := lead 6) (l2 := lead 6) (b := false) (by kernel_rfl) rfl (.tmp 18) (.tmp 19) 24 rfl rfl rfl ll ll (by simp) ?_
  clear B9
  by_cases hk0 : a1 < 0
  · go_wp2_with fail
    go_ret
    exact ⟨rfl, unhid BE5⟩
  by_cases hk1 : (n0 : Int) ≤ a1
  · go_wp2_with fail
    go_ret
    exact ⟨rfl, unhid BE5⟩
  obtain ⟨k, rfl⟩ := Int.eq_ofNat_of_zero_le (show 0 ≤ a1 by omega)
  have hk : k < n0 := by omega
  have sz5 := (unhid BE5).size
  go_wp2_with (at_builtin; refine halt_at (fun K hK => ?_))
  refine go_on hK ?_; clear hK
  refine app_new digsE rfl (.tmp 29) (.tmp 30) rfl rfl (Own.lit_at _ _ 24 32 0 _ _ [] rfl (Nat.le_refl _) (by decide) rfl rfl) rfl (((unhid H).below (unhid BE5)).alloc sz5 _) (ints_one .u8 _) (by simp [maxLen]; omega) (by omega) (by simp) ?_
  intro A6 c6 w6 o6 g6 l6
  have b6 := Below.grown ((Below.refl w5.heap.size w5).alloc (Nat.le_refl _) _) g6 (by simp) (fun q hq => by simp [at_] at hq; omega)
  obtain ⟨g, _, rfl, hBg, -⟩ := o6.blk (by omega)
  have O6 := hid o6; have B6 := hid b6; clear o6 b6 g6 l6
  have i1 : (0 : Int) ≤ (k : Int) := by omega
  have i2 : (k : Int) < (n0 : Int) := by omega
  go_wp2_with (with_reducible refine halt_op none (.store _ _ _) (fun K hK => ?_))
  refine go_on hK ?_; clear hK
  have ones : ∀ l : List Int, ∀ v ∈ l.map (Value.int .u8), v.oneCell' = true := ints_one .u8
  have L32 := hid (show ∀ l ∈ L, l.length = 32 from fun l hl => (H8.out l hl).1)
  have hkL : k < L.length := by rw [HL.out]; exact hk
  refine store_own digestT.rowT rfl (.tmp 35) (.tmp 34) rfl (q := k * 32) (unhid O6) hk rfl rfl (vs := zeros.map (Value.int .u8)) rfl (by simp [zeros]) (ones _) ?_
  intro w7 o7 g7
  rw [flat_put L32.out hkL] at o7
  have b7 : Below w5.heap.size w5 w7 := Below.grown (unhid B6) g7 (unhid B6).size (fun q hq => by injection hq with hq; omega)
  have O7 := hid o7; have B7 := hid b7
  clear o7 b7 g7 O6 B6
  have L8 : ∀ d : List Int, d.length = 32 → By8 d → ∀ l ∈ L.set k d, l.length = 32 ∧ By8 l := fun d h1 h2 l hl => by
    rcases List.mem_or_eq_of_mem_set hl with h | rfl
    · exact H8.out l h
    · exact ⟨h1, h2⟩
  have LL : ∀ d : List Int, (L.set k d).length = n0 := fun d => by rw [List.length_set]; exact HL.out
  have L8' := hid L8; have LL' := hid LL; clear L8 LL
  go_wp2_with fail
  refine (mix_any _ n0 c6 (L.set k zeros) _ (Row.of_own (unhid O7)) (LL'.out _) (L8'.out _ (by simp [zeros]) zeros_by) (by omega)).mono ?_
  rintro e w8 ⟨rfl, hb8⟩
  obtain ⟨rl, r8⟩ := mix_ok (L.set k zeros) zeros (L8'.out _ (by simp [zeros]) zeros_by) (by simp [zeros]) zeros_by
  obtain ⟨rest, hrest⟩ : ∃ rest, mixL (L.set k zeros) = rest := ⟨_, rfl⟩
  have RL := hid (show rest.length = 32 by rw [← hrest]; exact rl)
  have R8 := hid (show By8 rest by rw [← hrest]; exact r8)
  have HRE := hid hrest
  rw [hrest]
  clear rl r8 hrest
  have O8' := hid ((unhid O7).below hb8 (Nat.le_refl _))
  have sz7 := (unhid B7).size
  have B8 := hid ((unhid B7).trans (hb8.mono sz7))
  clear hb8 O7 B7
  have sz8 := (unhid B8).size
  go_wp2_with (with_reducible refine halt_op (some 11) (.alloc _) (fun K hK => ?_))
  refine go_on hK ?_; clear hK
  refine alloc_arr digestT rfl rfl ?_
  rintro g11 w9 hg11 s9 b9 e9
  refine store_arr digestT (l := rest) rfl (.tmp 11) (.tmp 37) rfl rfl rfl RL.out b9 (by simp [cellsOf]) ?_
  intro w10 b10 g10
  have e10 : Below g11 w8 w10 := Below.grown e9 g10 (by omega) (fun q hq => by injection hq with hq; omega)
  have O10 := hid ((unhid O8').below e10 (by omega))
  have B10 := hid ((unhid B8).trans (e10.mono (by omega)))
  have BR10 := hid b10
  have lr := b10.lt'
  clear b9 b10 e9 e10 g10 O8' B8 s9 hg11
  go_wp2_with (with_reducible refine halt_op (some 12) (.alloc _) (fun K hK => ?_))
  refine go_on hK ?_; clear hK
  refine alloc_arr digestT rfl rfl ?_
  rintro g12 w11 hg12 s11 b11 e11
  have O11 := hid ((unhid O10).below e11 (by rw [hg12]; exact Nat.le_refl _))
  have B11 := hid ((unhid B10).trans (e11.mono (by have := (unhid B10).size; omega)))
  have BR11 := hid ((unhid BR10).below e11 (by omega))
  have BX11 := hid b11
  have hs11 : w10.heap.size + 1 = w11.heap.size := by omega
  have hgl : g < g12 := by have := (unhid O10).from_ g rfl; omega
  have hrl : g11 < g12 := by omega
  have hwl : w.heap.size < g12 := by omega
  have BW11 := hid (((unhid BW5).below (unhid B11) (by have := (unhid BW5).lt'; omega)))
  have BO11 := hid (((unhid BO5).below (unhid B11) (by have := (unhid BO5).lt'; omega)))
  have hol : w.heap.size + 1 < g12 := by have := (unhid BO5).lt'; omega
  clear b11 e11 O10 B10 BR10 s11 hg12 hs11
  go_wp2_with fail
  have zl : zeros.length = 32 := by simp [zeros]
  have OWL := hid (zip_len RL.out WL.out)
  have hown : ∀ j x y, rest[j]? = some x → l2[j]? = some y → (List.zipWith xi rest l2)[j]? = some (xi x y) := fun j x y h1 h2 => by rw [List.getElem?_zipWith, h1, h2]
  have hown' := hid hown
  generalize hmine : List.zipWith xi rest l2 = mine at *
  have HM := hid hmine
  clear hmine hown
  go_loopw [13] (fun v13 wr => ∃ j : Nat, j ≤ 32 ∧ v13 = .int .i64 j ∧ Hid (Blk wr g12 24 (cellsOf .u8 (patch mine zeros j))) ∧ Hid (Below g12 w11 wr)) (fun v13 _ => 32 - (intOf v13).toNat)
  case atStart => exact ⟨0, Nat.zero_le _, rfl, by simpa [patch, zeros] using BX11, Below.refl _ _⟩
  case round =>
    obtain ⟨j, hj, rfl, HX, HB⟩ := hrel
    by_cases hlt : j < 32
    · obtain ⟨x, hx⟩ : ∃ x, rest[j]? = some x := ⟨_, List.getElem?_eq_getElem (by rw [RL.out]; exact hlt)⟩
      obtain ⟨y, hy⟩ : ∃ y, l2[j]? = some y := ⟨_, List.getElem?_eq_getElem (by rw [WL.out]; exact hlt)⟩
      have hxy := u8_xi (R8.out x (List.mem_of_getElem? hx)) (W8.out y (List.mem_of_getElem? hy))
      have c1 : wr.cell? ⟨g11, j, none⟩ = some (.int .u8 x) := by rw [((unhid BR11).below (unhid HB) hrl).cell, cellsOf_get, hx]; rfl
      have c2 : wr.cell? ⟨w.heap.size, j, none⟩ = some (.int .u8 y) := by rw [((unhid BW11).below (unhid HB) hwl).cell, cellsOf_get, hy]; rfl
      have hset := hid (patch_set OWL.out zl hlt (hown'.out j x y hx hy))
      obtain ⟨z, hz⟩ : ∃ z, (patch mine zeros j)[j]? = some z := ⟨_, List.getElem?_eq_getElem (by rw [patch_len OWL.out zl hj]; exact hlt)⟩
      have c3 : wr.cell? ⟨g12, j, none⟩ = some (.int .u8 z) := by rw [(unhid HX).cell, cellsOf_get, hz]; rfl
      have c4 : wr.frozen? ⟨g12, j, none⟩ = false := (unhid HX).free j
      have j1 : (0 : Int) ≤ (j : Int) := by omega
      have j2 : (j : Int) < 32 := by omega
      clear hx hy hz
      go_wp2_with fail
      go_region
      go_wp2_with fail
      go_roundw
      case rel =>
        refine ⟨j + 1, by omega, by go_num, ?_, ((unhid HB).setCell (Nat.le_refl _) _).drew⟩
        have := (unhid HX).put j (.int .u8 (xi x y))
        rw [cellsOf_set, hset.out] at this
        exact this.drew
      case measure => simp [intOf]; omega
    · have hj32 : j = 32 := by omega
      subst hj32
      rw [patch_all OWL.out zl] at HX
      have O12 := hid ((unhid O11).below' (unhid HB) hgl)
      have hbw : Below w5.heap.size w5 wr := (unhid B11).trans ((unhid HB).mono (by have := hrl; omega))
      have BWr := hid ((unhid BW11).below (unhid HB) hwl)
      have BOr := hid ((unhid BO11).below (unhid HB) hol)
      have BEr := hid ((unhid BE5).trans (hbw.mono sz5))
      clear hbw BR11
      go_wp2_with (with_reducible refine halt_op (some 53) (.load _ _) (fun K hK => ?_))
      refine go_on hK ?_; clear hK
      refine load_arr digestT (l := mine) rfl (.tmp 12) rfl rfl (unhid HX) OWL.out ?_
      go_wp2_with (with_reducible refine halt_op none (.store _ _ _) (fun K hK => ?_))
      refine go_on hK ?_; clear hK
      refine store_own digestT.rowT rfl (.tmp 54) (.tmp 53) rfl (q := k * 32) (unhid O12) hk rfl rfl (vs := mine.map (Value.int .u8)) rfl (by rw [List.length_map]; exact OWL.out) (ones _) ?_
      intro w13 o13 g13
      rw [flat_put (fun l hl => (L8'.out zeros zl zeros_by l hl).1) (by rw [List.length_set]; exact hkL), List.set_set] at o13
      have hgb : w.heap.size + 1 < g := by have := (unhid BO5).lt'; omega
      have BW13 := hid ((unhid BWr).grown g13 (by intro h; injection h with h; omega))
      have BO13 := hid ((unhid BOr).grown g13 (by intro h; injection h with h; omega))
      have BX13 := hid ((unhid HX).grown g13 (by intro h; injection h with h; omega))
      have BE13 := hid ((unhid BEr).grown g13 (unhid BEr).size (fun q hq => by injection hq with hq; omega))
      have O13 := hid o13
      clear o13 g13 O12 BWr BOr BEr HX O11 B11 BW11 BO11 BX11 BE5 BW5 BO5
      have hwant : mixL (L.set k mine) = l2 := by rw [mix_set hkL H8.out, HRE.out, ← HM.out]; exact zip_twice RL.out WL.out W8.out
      have hmx : ∀ w', Below w13.heap.size w13 w' → Calls Try.prog 9 #[.slice (some ⟨g, 0, none⟩) n0 c6] w' fun e w'' => e = .returned (.agg (cellsOf .u8 l2)) ∧ Below w13.heap.size w13 w'' := fun w' hb => by
        have := mix_any _ n0 c6 (L.set k mine) w' (((Row.of_own (unhid O13)).below hb).more hb.size) (LL'.out _) (L8'.out _ OWL.out (by rw [← HM.out]; exact zip_by R8.out W8.out)) (by omega)
        rw [hwant] at this
        exact this.mono fun e w'' ⟨h1, h2⟩ => ⟨h1, hb.trans (h2.mono hb.size)⟩
      obtain ⟨C2, hC2⟩ : ∃ C, l2.map (Value.int .u8) = C := ⟨_, rfl⟩
      have hC2a : cellsOf .u8 l2 = C2.toArray := by rw [← hC2]; rfl
      have rg2 : ∀ w', Below w13.heap.size w13 w' → w'.rangeAt w.heap.size 0 C2 := fun w' hb j v hv => by
        rw [Nat.zero_add, ((unhid BW13).below hb (unhid BW13).lt').cell, hC2a]; simpa using hv
      have HR2 := hid rg2
      rw [hC2a] at hmx
      have HMX := hid hmx
      have len2 : C2.length = 32 := by rw [← hC2, List.length_map]; exact WL.out
      have hne : ∀ W : World, (binOp .neq 24 (.agg C2.toArray) (.agg C2.toArray)).run Try.prog W = .ok (.bool false) W := fun W => by
        rw [← hC2a, run_neq_struct, run_eq_arr digestT W 9998 l2 l2 WL.out WL.out]; simp
      have hgd : ∀ W : World, (eqGuard .neq 24 (.tmp 56) (.tmp 57) (.agg C2.toArray) (.agg C2.toArray)).run Try.prog W = .ok () W := fun W => by
        unfold eqGuard; simp [run_program, Sem.run_bind, show Try.prog.eqGuardType Try.prog.depth 24 = false by kernel_rfl]
      have hu := Try.underlying24
      have hi : (Try.prog.info? 24).map (·.size) = some C2.length := by rw [len2]; exact digestT.size
      have S0 : w13.rangeAt w.heap.size 0 C2 ∧ Below w13.heap.size w13 w13 := ⟨rg2 _ (Below.refl _ _), Below.refl _ _⟩
      have S1 : w13.drew.rangeAt w.heap.size 0 C2 ∧ Below w13.heap.size w13 w13.drew := ⟨rg2 _ (Below.refl _ _).drew, (Below.refl _ _).drew⟩
      clear rg2 hmx hwant hC2a
      go_wp2_with fail
      go_region_held3 (fun w' => w'.rangeAt w.heap.size 0 C2 ∧ Below w13.heap.size w13 w') (first | exact S0 | exact S1 | assumption)
        (first | (go_at_call 9; refine (unhid HMX _ (Below.refl _ _).drew).mono ?_; rintro e w' ⟨rfl, hb⟩; have hs : w'.rangeAt w.heap.size 0 C2 ∧ Below w13.heap.size w13 w' := ⟨unhid HR2 _ hb, hb⟩))
      clear hne hgd hi S0 S1
      go_wp2_with (with_reducible refine halt_op (some 61) (.load _ _) (fun K hK => ?_))
      refine go_on hK ?_; clear hK
      have hBl := hb
      have O14 := hid ((unhid O13).below hBl (Nat.le_refl _))
      have BW14 := hid ((unhid BW13).below hBl (unhid BW13).lt')
      have BO14 := hid ((unhid BO13).below hBl (unhid BO13).lt')
      have BX14 := hid ((unhid BX13).below hBl (unhid BX13).lt')
      have BE14 := hid ((unhid BE13).trans (hBl.mono (unhid BE13).size))
      clear hb hBl O13 BW13 BO13 BX13 BE13 HMX HR2 hs
      refine load_arr digestT (l := l3) rfl (.tmp 7) rfl rfl (unhid BO14) OL.out ?_
      go_wp2_with (with_reducible refine halt_op none (.store _ _ _) (fun K hK => ?_))
      refine go_on hK ?_; clear hK
      refine store_own digestT.rowT rfl (.tmp 62) (.tmp 61) rfl (q := k * 32) (unhid O14) hk rfl rfl (vs := l3.map (Value.int .u8)) rfl (by rw [List.length_map]; exact OL.out) (ones _) ?_
      intro w15 o15 g15
      rw [flat_put (fun l hl => (L8'.out mine OWL.out (by rw [← HM.out]; exact zip_by R8.out W8.out) l hl).1) (by rw [List.length_set]; exact hkL), List.set_set] at o15
      have BW15 := hid ((unhid BW14).grown g15 (by intro h; injection h with h; omega))
      have BO15 := hid ((unhid BO14).grown g15 (by intro h; injection h with h; omega))
      have BX15 := hid ((unhid BX14).grown g15 (by intro h; injection h with h; omega))
      have BE15 := hid ((unhid BE14).grown g15 (unhid BE14).size (fun q hq => by injection hq with hq; omega))
      have O15 := hid o15
      clear o15 g15 O14 BW14 BO14 BX14 BE14
      obtain ⟨m2, hm2⟩ : ∃ m, mixL (L.set k l3) = m := ⟨_, rfl⟩
      have mk2 := mix_ok (L.set k l3) zeros (L8'.out _ OL.out O8.out) zl zeros_by
      have m2l : m2.length = 32 := by rw [← hm2]; exact mk2.1
      have hiff : decide (m2 = l2) = decide (l3 = mine) := by
        rw [← hm2, mix_set hkL H8.out, HRE.out, ← HM.out]
        exact decide_eq_decide.2 (zip_iff RL.out WL.out W8.out OL.out O8.out)
      have hmx : ∀ w', Below w15.heap.size w15 w' → Calls Try.prog 9 #[.slice (some ⟨g, 0, none⟩) n0 c6] w' fun e w'' => e = .returned (.agg (cellsOf .u8 m2)) ∧ Below w15.heap.size w15 w'' := fun w' hb => by
        have := mix_any _ n0 c6 (L.set k l3) w' (((Row.of_own (unhid O15)).below hb).more hb.size) (LL'.out _) (L8'.out _ OL.out O8.out) (by omega)
        rw [hm2] at this
        exact this.mono fun e w'' ⟨h1, h2⟩ => ⟨h1, hb.trans (h2.mono hb.size)⟩
      obtain ⟨b1, hb1⟩ : ∃ b, decide (m2 = l2) = b := ⟨_, rfl⟩
      rw [hb1] at hiff
      have rg2 : ∀ w', Below w15.heap.size w15 w' → (w'.rangeAt w.heap.size 0 (l2.map (Value.int .u8)) ∧ w'.rangeAt (w.heap.size + 1) 0 (l3.map (Value.int .u8)) ∧ w'.rangeAt g12 0 (mine.map (Value.int .u8))) := fun w' hb =>
        ⟨((unhid BW15).below hb (unhid BW15).lt').range, ((unhid BO15).below hb (unhid BO15).lt').range, ((unhid BX15).below hb (unhid BX15).lt').range⟩
      have HR2 := hid rg2
      have HMX := hid hmx
      have HF : Hid (∀ v : World, Below w15.heap.size w15 v → Below w.heap.size w v) := fun v hv => (unhid BE15).trans (hv.mono (unhid BE15).size)
      have M2L := hid m2l; have HB1 := hid hb1; have HIFF := hid hiff
      clear rg2 hmx hu m2l hb1 hiff
      go_wp2_with fail
      refine wp_region_held_drew (S := fun w' => w'.rangeAt w.heap.size 0 (l2.map (Value.int .u8)) ∧ w'.rangeAt (w.heap.size + 1) 0 (l3.map (Value.int .u8)) ∧ w'.rangeAt g12 0 (mine.map (Value.int .u8))) (by kernel_rfl) (unhid HR2 _ (Below.refl _ _).drew) (fun hS => ?_)
      refine wpAnyH_take (i := 2) (oi := { dst := some 65, op := Op.load 24 (Operand.tmp 6), type := 24, pos := "shares.go:474", after := #[], guard := none }) (v := .agg (cellsOf .u8 l2)) rfl (by kernel_rfl) (by kernel_rfl) (by kernel_rfl) (fun _ _ _ h => h) (yields_load digestT rfl (.tmp 6) rfl rfl WL.out (fun w h => h.1)) hS ?_
      try simp only [Act.put, List.setIfInBounds_toArray, List.set_cons_zero, List.set_cons_succ]
      refine wpAnyH_take (i := 4) (oi := { dst := some 67, op := Op.load 24 (Operand.tmp 7), type := 24, pos := "shares.go:474", after := #[], guard := none }) (v := .agg (cellsOf .u8 l3)) rfl (by kernel_rfl) (by kernel_rfl) (by kernel_rfl) (fun _ _ _ h => h) (yields_load digestT rfl (.tmp 7) rfl rfl OL.out (fun w h => h.2.1)) hS ?_
      try simp only [Act.put, List.setIfInBounds_toArray, List.set_cons_zero, List.set_cons_succ]
      refine wpAnyH_take (i := 5) (oi := { dst := some 68, op := Op.load 24 (Operand.tmp 12), type := 24, pos := "shares.go:474", after := #[], guard := none }) (v := .agg (cellsOf .u8 mine)) rfl (by kernel_rfl) (by kernel_rfl) (by kernel_rfl) (fun _ _ _ h => h) (yields_load digestT rfl (.tmp 12) rfl rfl OWL.out (fun w h => h.2.2)) hS ?_
      try simp only [Act.put, List.setIfInBounds_toArray, List.set_cons_zero, List.set_cons_succ]
      refine wpAnyH_take (i := 6) (oi := { dst := some 69, op := Op.binOp BinOp.eql 24 (Operand.tmp 67) (Operand.tmp 68) 24, type := 4, pos := "shares.go:474", after := #[{ on := 4, ground := Ground.data }, { on := 5, ground := Ground.data }], guard := none }) (v := .bool b1) rfl (by kernel_rfl) (by kernel_rfl) (by kernel_rfl) (fun _ _ _ h => h) (yields_eql digestT (by kernel_rfl) rfl (.tmp 67) (.tmp 68) 24 rfl rfl rfl OL.out OWL.out HIFF.out) hS ?_
      try simp only [Act.put, List.setIfInBounds_toArray, List.set_cons_zero, List.set_cons_succ]
      refine wpAnyH_take (i := 0) (oi := { dst := some 63, op := Op.move (Operand.tmp 10), type := 22, pos := "shares.go:474", after := #[], guard := none }) (v := .slice (some ⟨g, 0, none⟩) n0 c6) rfl (by kernel_rfl) (by kernel_rfl) (by kernel_rfl) (fun _ _ _ h => h) (yields_of rfl (fun w => rfl)) hS ?_
      try simp only [Act.put, List.setIfInBounds_toArray, List.set_cons_zero, List.set_cons_succ]
      refine wpAnyH_ready (rs := [1]) (by kernel_rfl) (by simp) ?_
      refine AllReadyH.cons (o := { dst := some 64, op := Op.call { callee := Callee.value (Operand.func 9), args := #[Operand.tmp 63], argTypes := #[22] }, type := 24, pos := "shares.go:474", after := #[{ on := 0, ground := Ground.data }], guard := none }) rfl (fun K hK => ?_) AllReadyH.nil
      go_simp
      refine (unhid HMX _ (Below.refl _ _).drew).mono ?_
      rintro e w' ⟨rfl, hb⟩
      go_wp2_with fail
      refine hK.out _ _ (unhid HR2 _ hb) (fun hS2 => ?_)
      try simp only [Act.put, List.setIfInBounds_toArray, List.set_cons_zero, List.set_cons_succ]
      refine wpAnyH_take (i := 3) (oi := { dst := some 66, op := Op.binOp BinOp.eql 24 (Operand.tmp 64) (Operand.tmp 65) 24, type := 4, pos := "shares.go:474", after := #[{ on := 1, ground := Ground.data }, { on := 2, ground := Ground.data }], guard := none }) (v := .bool b1) rfl (by kernel_rfl) (by kernel_rfl) (by kernel_rfl) (fun _ _ _ h => h) (yields_eql digestT (by kernel_rfl) rfl (.tmp 64) (.tmp 65) 24 rfl rfl rfl M2L.out WL.out HB1.out.symm) hS2 ?_
      try simp only [Act.put, List.setIfInBounds_toArray, List.set_cons_zero, List.set_cons_succ]
      refine wpAnyH_take (i := 7) (oi := { dst := some 70, op := Op.binOp BinOp.eql 4 (Operand.tmp 66) (Operand.tmp 69) 4, type := 4, pos := "shares.go:474", after := #[{ on := 3, ground := Ground.data }, { on := 6, ground := Ground.data }], guard := none }) (v := .bool true) rfl (by kernel_rfl) (by kernel_rfl) (by kernel_rfl) (fun _ _ _ h => h) (yields_of rfl (fun w => by go_simp)) hS2 ?_
      try simp only [Act.put, List.setIfInBounds_toArray, List.set_cons_zero, List.set_cons_succ]
      refine wpAnyH_ready (rs := [8]) (by kernel_rfl) (by simp) ?_
      refine AllReadyH.cons (o := { dst := some 8, op := Op.assign (Operand.tmp 70), type := 4, pos := "shares.go:474", after := #[{ on := 7, ground := Ground.data }, { on := 1, ground := Ground.chain }, { on := 0, ground := Ground.phase }, { on := 1, ground := Ground.phase }, { on := 2, ground := Ground.phase }, { on := 3, ground := Ground.phase }, { on := 4, ground := Ground.phase }, { on := 5, ground := Ground.phase }, { on := 6, ground := Ground.phase }, { on := 7, ground := Ground.phase }], guard := none }) rfl (fun K hK => ?_) AllReadyH.nil
      go_simp
      refine hK.out _ _ hS2 (fun hS3 => ?_)
      try simp only [Act.put, List.setIfInBounds_toArray, List.set_cons_zero, List.set_cons_succ]
      refine wpAnyH_done (by kernel_rfl) ?_ _
      go_wp2_with fail
      go_ret
      exact ⟨rfl, unhid HF _ hb⟩
end Go.Proofs.Ytilaipdpbcfhkaa
