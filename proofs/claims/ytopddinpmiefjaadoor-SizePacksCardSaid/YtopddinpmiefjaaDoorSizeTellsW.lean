/- The walks of the reference's SizeAt and Packed. -/
import Derived.Test.YtopddinpmiefjaaDoorRefSizeW
namespace Go.Proofs.YtopddinpmiefjaaDoor
set_option linter.unusedVariables false
open Go.RowKit Go.Mny
abbrev gotZ : Obj := .cells #[.int .i64 0, .int .i64 0, .int .i64 0] 43
def GotP (w : World) (a b c : Int) (e : Ending) (w' : World) : Prop := e = .returned (.agg #[.int .i64 a, .int .i64 b, .int .i64 c]) ∧ Below w.heap.size w w'
set_option maxHeartbeats 2000000 in
set_option maxRecDepth 100000 in
theorem sizeAt_in (l : List Int) (A : Option Addr) (n c D p : Nat) (w : World) (hr : Row w D 1 A n (l.map (Value.int .u8))) (hb : Siz.Bytes l) (hn : n ≤ 4611686018427387904) (hc : n ≤ c) (hp : p < n) (hD : D ≤ w.heap.size) :
    Calls Tryd.prog 18 #[.slice A n c, .int .i64 (p : Int)] w (GotP w (readAt l p).1 (readAt l p).2.1 (readAt l p).2.2) := by
  have hl := hr.length
  obtain ⟨g, o, x, rfl, hg, hx, hcx⟩ := hr.int hp
  have hxb := hb x (List.mem_of_getElem? hx.out)
  have hra := readAt_of hx.out
  have c1 : (w.alloc (.cells #[.int .i64 0, .int .i64 0, .int .i64 0] 43)).cell? ⟨g, o + p, none⟩ = some (.int .u8 x) := by
    rw [World.cell?_alloc_lt _ _ ⟨g, o + p, none⟩ (by simp; omega)]; exact hcx
  have HR := hid (hr.alloc hD (.cells #[.int .i64 0, .int .i64 0, .int .i64 0] 43))
  have HB := hid hb; have HL := hid hl; have HX := hid hx.out
  have t1 : (0 : Int) ≤ (p : Int) := by omega
  have t2 : (p : Int) < (n : Int) := by omega
  clear hr hb hl hx hcx
  by_cases hs : x < 253
  · rw [read_small x _ hs] at hra
    have HRA := hid hra
    have n1 : (x == 253) = false := by simp; omega
    have n2 : (x == 254) = false := by simp; omega
    have n3 : (x == 255) = false := by simp; omega
    clear hra
    go_enter Tryd.func18, Tryd.ntmps18
    go_wp2_with fail
    rw [HRA.out]
    exact bodyPost_ret (v := .agg #[.int .i64 x, .int .i64 ((p : Int) + 1), .int .i64 0]) (by simp [results, Tryd.results18, go_sem]) rfl ⟨rfl, (Below.refl _ _).alloc (Nat.le_refl _) _⟩
  · rw [read_big x _ hs] at hra
    have hx3 : (x = 253 ∧ wOf x = 2) ∨ (x = 254 ∧ wOf x = 4) ∨ (x = 255 ∧ wOf x = 8) := by
      rcases (show x = 253 ∨ x = 254 ∨ x = 255 by omega) with rfl | rfl | rfl <;> simp [wOf]
    obtain ⟨r, hrr⟩ : ∃ r, l.drop (p + 1) = r := ⟨_, rfl⟩
    have hrl : r.length = n - (p + 1) := by rw [← hrr, List.length_drop, HL.out]
    rw [hrr] at hra
    obtain ⟨W, hW⟩ : ∃ W, wOf x = W := ⟨_, rfl⟩
    rw [hW] at hra hx3
    have HRR := hid hrr
    have hrb : Siz.Bytes (r.take W) := fun z hz => HB.out z (by
      rw [← hrr] at hz
      exact List.mem_of_mem_drop (List.mem_of_mem_take hz))
    clear hs hxb hW hrr
    by_cases hshort : r.length < W
    · rw [if_pos hshort] at hra
      have HRA := hid hra
      have t3 : (n : Int) < (p : Int) + 1 + (W : Int) := by omega
      clear hra hrl hshort hrb
      rcases hx3 with ⟨rfl, rfl⟩ | ⟨rfl, rfl⟩ | ⟨rfl, rfl⟩
      all_goals
        have t4 : (n : Int) < (p : Int) + 1 + 8 := by omega
        go_enter Tryd.func18, Tryd.ntmps18
        go_wp2_with fail
        rw [HRA.out]
        exact bodyPost_ret (v := .agg #[.int .i64 0, .int .i64 0, .int .i64 3]) (by simp [results, Tryd.results18, go_sem]) rfl ⟨rfl, (Below.refl _ _).alloc (Nat.le_refl _) _⟩
    · rw [if_neg hshort] at hra
      have t3 : (p : Int) + 1 + (W : Int) ≤ (n : Int) := by omega
      have t5 : p + 1 + W ≤ n := by omega
      obtain ⟨L, hL⟩ : ∃ L, r.take W = L := ⟨_, rfl⟩
      rw [hL] at hra hrb
      have hLl : L.length = W := by rw [← hL, List.length_take]; omega
      have hvb := val_bd L hrb
      have hcut : ((l.map (Value.int .u8)).take ((p + 1 + W) * 1)).drop ((p + 1) * 1) = L.map (Value.int .u8) := by
        rw [Nat.mul_one, Nat.mul_one, ← List.map_take, ← List.map_drop, List.drop_take, HRR.out, show p + 1 + W - (p + 1) = W by omega, hL]
      have HCUT := hid hcut; have HLB := hid hrb
      clear hcut hL hrl hshort hrb
      have hw1 : W = 2 ∨ W = 4 ∨ W = 8 := by omega
      by_cases hbig : Siz.val L < 9223372036854775808
      · by_cases hwd : Siz.wide (Siz.val L) = W
        · rw [if_neg (by rw [hwd]; omega)] at hra
          have hlen : (Siz.ofN (Siz.val L)).length = 1 + W := by rw [Siz.ofN_length, hwd]
          obtain ⟨v, hv⟩ : ∃ v, Siz.val L = v := ⟨_, rfl⟩
          rw [hv] at hra hlen hvb
          have HRA := hid hra; have HLEN := hid hlen; have HV := hid hv; have HBIG := hid hbig
          have v0 := hvb.1
          have v1 : v ≤ 9223372036854775807 := by have := hbig; omega
          clear hra hlen hv hwd hbig hvb hw1
          rcases hx3 with ⟨rfl, rfl⟩ | ⟨rfl, rfl⟩ | ⟨rfl, rfl⟩
          ·
            go_enter Tryd.func18, Tryd.ntmps18
            go_wp2_with (with_reducible refine halt_op (some 57) (.slice _ _ _ _ _) (fun K hK => ?_))
            refine go_on hK ?_; clear hK
            refine slice_step bytesE rfl (.tmp 50) (some (.tmp 52)) (some (.tmp 56)) rfl rfl (i := p + 1) (j := p + 1 + 2) (Bnd.at_ (k := .i64) rfl) (Bnd.at_ (k := .i64) rfl) (unhid HR) (by omega) t5 hc ?_
            intro A2 r2
            rw [HCUT.out, show p + 1 + 2 - (p + 1) = 2 by omega] at r2
            have R2 := hid r2
            clear r2
            rw [show p + 1 + 2 - (p + 1) = 2 by omega]
            go_wp2_with fail
            refine (rnum_ok L A2 2 _ _ _ (unhid R2) HLB.out (by decide) (by decide) HBIG.out).mono ?_
            rintro e w' ⟨rfl, rfl⟩
            rw [HV.out]
            go_wp2_with fail
            refine (rsize_any v _ v0 v1).mono ?_
            rintro e w2 ⟨A3, c3, rfl, _, hb2⟩
            rw [HLEN.out]
            have F2 : Hid (Below w.heap.size w w2) := hid (((Below.refl _ _).alloc (Nat.le_refl _) _).trans (hb2.mono (by simp)))
            have B2 : Hid (Blk w2 w.heap.size 43 #[.int .i64 0, .int .i64 0, .int .i64 0]) := hid ((Blk.new w 43 #[.int .i64 0, .int .i64 0, .int .i64 0]).below hb2 (by simp))
            have d0 := (unhid B2).cell 0; have d1 := (unhid B2).cell 1; have d2 := (unhid B2).cell 2
            have z0 := (unhid B2).free 0; have z1 := (unhid B2).free 1; have z2 := (unhid B2).free 2
            have sz := (unhid B2).lt'
            simp at d0 d1 d2
            clear hb2
            go_wp2_with fail
            have b3 := (((unhid B2).put 0 (.int .i64 v)).put 1 (.int .i64 ((p : Int) + 1 + 2))).put 2 (.int .i64 0)
            simp only [Array.setIfInBounds, List.size_toArray, List.length_cons, List.length_nil] at b3
            refine bodyPost_ret (results_cell_row rfl _ _ w.heap.size _ #[.int .i64 v, .int .i64 ((p : Int) + 1 + 2), .int .i64 0] (0, 0) _ rfl b3 Tryd.underlying43 rfl (by kernel_rfl)) rfl ?_
            show GotP w _ _ _ _ _
            rw [HRA.out]
            exact ⟨by rw [if_pos trivial, show (p : Int) + ((1 + 2 : Nat) : Int) = (p : Int) + 1 + 2 by omega], (((unhid F2).setCell (p := ⟨w.heap.size, 0, none⟩) (Nat.le_refl _) _).setCell (p := ⟨w.heap.size, 1, none⟩) (Nat.le_refl _) _).setCell (p := ⟨w.heap.size, 2, none⟩) (Nat.le_refl _) _⟩
          ·
            go_enter Tryd.func18, Tryd.ntmps18
            go_wp2_with (with_reducible refine halt_op (some 57) (.slice _ _ _ _ _) (fun K hK => ?_))
            refine go_on hK ?_; clear hK
            refine slice_step bytesE rfl (.tmp 50) (some (.tmp 52)) (some (.tmp 56)) rfl rfl (i := p + 1) (j := p + 1 + 4) (Bnd.at_ (k := .i64) rfl) (Bnd.at_ (k := .i64) rfl) (unhid HR) (by omega) t5 hc ?_
            intro A2 r2
            rw [HCUT.out, show p + 1 + 4 - (p + 1) = 4 by omega] at r2
            have R2 := hid r2
            clear r2
            rw [show p + 1 + 4 - (p + 1) = 4 by omega]
            go_wp2_with fail
            refine (rnum_ok L A2 4 _ _ _ (unhid R2) HLB.out (by decide) (by decide) HBIG.out).mono ?_
            rintro e w' ⟨rfl, rfl⟩
            rw [HV.out]
            go_wp2_with fail
            refine (rsize_any v _ v0 v1).mono ?_
            rintro e w2 ⟨A3, c3, rfl, _, hb2⟩
            rw [HLEN.out]
            have F2 : Hid (Below w.heap.size w w2) := hid (((Below.refl _ _).alloc (Nat.le_refl _) _).trans (hb2.mono (by simp)))
            have B2 : Hid (Blk w2 w.heap.size 43 #[.int .i64 0, .int .i64 0, .int .i64 0]) := hid ((Blk.new w 43 #[.int .i64 0, .int .i64 0, .int .i64 0]).below hb2 (by simp))
            have d0 := (unhid B2).cell 0; have d1 := (unhid B2).cell 1; have d2 := (unhid B2).cell 2
            have z0 := (unhid B2).free 0; have z1 := (unhid B2).free 1; have z2 := (unhid B2).free 2
            have sz := (unhid B2).lt'
            simp at d0 d1 d2
            clear hb2
            go_wp2_with fail
            have b3 := (((unhid B2).put 0 (.int .i64 v)).put 1 (.int .i64 ((p : Int) + 1 + 4))).put 2 (.int .i64 0)
            simp only [Array.setIfInBounds, List.size_toArray, List.length_cons, List.length_nil] at b3
            refine bodyPost_ret (results_cell_row rfl _ _ w.heap.size _ #[.int .i64 v, .int .i64 ((p : Int) + 1 + 4), .int .i64 0] (0, 0) _ rfl b3 Tryd.underlying43 rfl (by kernel_rfl)) rfl ?_
            show GotP w _ _ _ _ _
            rw [HRA.out]
            exact ⟨by rw [if_pos trivial, show (p : Int) + ((1 + 4 : Nat) : Int) = (p : Int) + 1 + 4 by omega], (((unhid F2).setCell (p := ⟨w.heap.size, 0, none⟩) (Nat.le_refl _) _).setCell (p := ⟨w.heap.size, 1, none⟩) (Nat.le_refl _) _).setCell (p := ⟨w.heap.size, 2, none⟩) (Nat.le_refl _) _⟩
          ·
            go_enter Tryd.func18, Tryd.ntmps18
            go_wp2_with (with_reducible refine halt_op (some 57) (.slice _ _ _ _ _) (fun K hK => ?_))
            refine go_on hK ?_; clear hK
            refine slice_step bytesE rfl (.tmp 50) (some (.tmp 52)) (some (.tmp 56)) rfl rfl (i := p + 1) (j := p + 1 + 8) (Bnd.at_ (k := .i64) rfl) (Bnd.at_ (k := .i64) rfl) (unhid HR) (by omega) t5 hc ?_
            intro A2 r2
            rw [HCUT.out, show p + 1 + 8 - (p + 1) = 8 by omega] at r2
            have R2 := hid r2
            clear r2
            rw [show p + 1 + 8 - (p + 1) = 8 by omega]
            go_wp2_with fail
            refine (rnum_ok L A2 8 _ _ _ (unhid R2) HLB.out (by decide) (by decide) HBIG.out).mono ?_
            rintro e w' ⟨rfl, rfl⟩
            rw [HV.out]
            go_wp2_with fail
            refine (rsize_any v _ v0 v1).mono ?_
            rintro e w2 ⟨A3, c3, rfl, _, hb2⟩
            rw [HLEN.out]
            have F2 : Hid (Below w.heap.size w w2) := hid (((Below.refl _ _).alloc (Nat.le_refl _) _).trans (hb2.mono (by simp)))
            have B2 : Hid (Blk w2 w.heap.size 43 #[.int .i64 0, .int .i64 0, .int .i64 0]) := hid ((Blk.new w 43 #[.int .i64 0, .int .i64 0, .int .i64 0]).below hb2 (by simp))
            have d0 := (unhid B2).cell 0; have d1 := (unhid B2).cell 1; have d2 := (unhid B2).cell 2
            have z0 := (unhid B2).free 0; have z1 := (unhid B2).free 1; have z2 := (unhid B2).free 2
            have sz := (unhid B2).lt'
            simp at d0 d1 d2
            clear hb2
            go_wp2_with fail
            have b3 := (((unhid B2).put 0 (.int .i64 v)).put 1 (.int .i64 ((p : Int) + 1 + 8))).put 2 (.int .i64 0)
            simp only [Array.setIfInBounds, List.size_toArray, List.length_cons, List.length_nil] at b3
            refine bodyPost_ret (results_cell_row rfl _ _ w.heap.size _ #[.int .i64 v, .int .i64 ((p : Int) + 1 + 8), .int .i64 0] (0, 0) _ rfl b3 Tryd.underlying43 rfl (by kernel_rfl)) rfl ?_
            show GotP w _ _ _ _ _
            rw [HRA.out]
            exact ⟨by rw [if_pos trivial, show (p : Int) + ((1 + 8 : Nat) : Int) = (p : Int) + 1 + 8 by omega], (((unhid F2).setCell (p := ⟨w.heap.size, 0, none⟩) (Nat.le_refl _) _).setCell (p := ⟨w.heap.size, 1, none⟩) (Nat.le_refl _) _).setCell (p := ⟨w.heap.size, 2, none⟩) (Nat.le_refl _) _⟩
        · rw [if_pos (.inr hwd)] at hra
          have hlen : (Siz.ofN (Siz.val L)).length ≠ 1 + W := by rw [Siz.ofN_length]; omega
          obtain ⟨v, hv⟩ : ∃ v, Siz.val L = v := ⟨_, rfl⟩
          rw [hv] at hlen hvb
          obtain ⟨q, hq⟩ : ∃ q, (Siz.ofN v).length = q := ⟨_, rfl⟩
          rw [hq] at hlen
          have HRA := hid hra; have HV := hid hv; have HBIG := hid hbig; have HQ := hid hq
          have v0 := hvb.1
          have v1 : v ≤ 9223372036854775807 := by have := hbig; omega
          clear hra hv hwd hbig hvb hq hw1
          rcases hx3 with ⟨rfl, rfl⟩ | ⟨rfl, rfl⟩ | ⟨rfl, rfl⟩
          ·
            have hne : ((q : Int) != 3) = true := by simp; omega
            clear hlen
            go_enter Tryd.func18, Tryd.ntmps18
            go_wp2_with (with_reducible refine halt_op (some 57) (.slice _ _ _ _ _) (fun K hK => ?_))
            refine go_on hK ?_; clear hK
            refine slice_step bytesE rfl (.tmp 50) (some (.tmp 52)) (some (.tmp 56)) rfl rfl (i := p + 1) (j := p + 1 + 2) (Bnd.at_ (k := .i64) rfl) (Bnd.at_ (k := .i64) rfl) (unhid HR) (by omega) t5 hc ?_
            intro A2 r2
            rw [HCUT.out, show p + 1 + 2 - (p + 1) = 2 by omega] at r2
            have R2 := hid r2
            clear r2
            rw [show p + 1 + 2 - (p + 1) = 2 by omega]
            go_wp2_with fail
            refine (rnum_ok L A2 2 _ _ _ (unhid R2) HLB.out (by decide) (by decide) HBIG.out).mono ?_
            rintro e w' ⟨rfl, rfl⟩
            rw [HV.out]
            go_wp2_with fail
            refine (rsize_any v _ v0 v1).mono ?_
            rintro e w2 ⟨A3, c3, rfl, _, hb2⟩
            rw [HQ.out]
            have F2 : Hid (Below w.heap.size w w2) := hid (((Below.refl _ _).alloc (Nat.le_refl _) _).trans (hb2.mono (by simp)))
            have B2 : Hid (Blk w2 w.heap.size 43 #[.int .i64 0, .int .i64 0, .int .i64 0]) := hid ((Blk.new w 43 #[.int .i64 0, .int .i64 0, .int .i64 0]).below hb2 (by simp))
            have d0 := (unhid B2).cell 0; have d1 := (unhid B2).cell 1; have d2 := (unhid B2).cell 2
            have z0 := (unhid B2).free 0; have z1 := (unhid B2).free 1; have z2 := (unhid B2).free 2
            have sz := (unhid B2).lt'
            simp at d0 d1 d2
            clear hb2
            go_wp2_with fail
            have b3 := (((unhid B2).put 0 (.int .i64 0)).put 1 (.int .i64 (0))).put 2 (.int .i64 1)
            simp only [Array.setIfInBounds, List.size_toArray, List.length_cons, List.length_nil] at b3
            refine bodyPost_ret (results_cell_row rfl _ _ w.heap.size _ #[.int .i64 0, .int .i64 (0), .int .i64 1] (0, 0) _ rfl b3 Tryd.underlying43 rfl (by kernel_rfl)) rfl ?_
            show GotP w _ _ _ _ _
            rw [HRA.out]
            exact ⟨rfl, (((unhid F2).setCell (p := ⟨w.heap.size, 0, none⟩) (Nat.le_refl _) _).setCell (p := ⟨w.heap.size, 1, none⟩) (Nat.le_refl _) _).setCell (p := ⟨w.heap.size, 2, none⟩) (Nat.le_refl _) _⟩
          ·
            have hne : ((q : Int) != 5) = true := by simp; omega
            clear hlen
            go_enter Tryd.func18, Tryd.ntmps18
            go_wp2_with (with_reducible refine halt_op (some 57) (.slice _ _ _ _ _) (fun K hK => ?_))
            refine go_on hK ?_; clear hK
            refine slice_step bytesE rfl (.tmp 50) (some (.tmp 52)) (some (.tmp 56)) rfl rfl (i := p + 1) (j := p + 1 + 4) (Bnd.at_ (k := .i64) rfl) (Bnd.at_ (k := .i64) rfl) (unhid HR) (by omega) t5 hc ?_
            intro A2 r2
            rw [HCUT.out, show p + 1 + 4 - (p + 1) = 4 by omega] at r2
            have R2 := hid r2
            clear r2
            rw [show p + 1 + 4 - (p + 1) = 4 by omega]
            go_wp2_with fail
            refine (rnum_ok L A2 4 _ _ _ (unhid R2) HLB.out (by decide) (by decide) HBIG.out).mono ?_
            rintro e w' ⟨rfl, rfl⟩
            rw [HV.out]
            go_wp2_with fail
            refine (rsize_any v _ v0 v1).mono ?_
            rintro e w2 ⟨A3, c3, rfl, _, hb2⟩
            rw [HQ.out]
            have F2 : Hid (Below w.heap.size w w2) := hid (((Below.refl _ _).alloc (Nat.le_refl _) _).trans (hb2.mono (by simp)))
            have B2 : Hid (Blk w2 w.heap.size 43 #[.int .i64 0, .int .i64 0, .int .i64 0]) := hid ((Blk.new w 43 #[.int .i64 0, .int .i64 0, .int .i64 0]).below hb2 (by simp))
            have d0 := (unhid B2).cell 0; have d1 := (unhid B2).cell 1; have d2 := (unhid B2).cell 2
            have z0 := (unhid B2).free 0; have z1 := (unhid B2).free 1; have z2 := (unhid B2).free 2
            have sz := (unhid B2).lt'
            simp at d0 d1 d2
            clear hb2
            go_wp2_with fail
            have b3 := (((unhid B2).put 0 (.int .i64 0)).put 1 (.int .i64 (0))).put 2 (.int .i64 1)
            simp only [Array.setIfInBounds, List.size_toArray, List.length_cons, List.length_nil] at b3
            refine bodyPost_ret (results_cell_row rfl _ _ w.heap.size _ #[.int .i64 0, .int .i64 (0), .int .i64 1] (0, 0) _ rfl b3 Tryd.underlying43 rfl (by kernel_rfl)) rfl ?_
            show GotP w _ _ _ _ _
            rw [HRA.out]
            exact ⟨rfl, (((unhid F2).setCell (p := ⟨w.heap.size, 0, none⟩) (Nat.le_refl _) _).setCell (p := ⟨w.heap.size, 1, none⟩) (Nat.le_refl _) _).setCell (p := ⟨w.heap.size, 2, none⟩) (Nat.le_refl _) _⟩
          ·
            have hne : ((q : Int) != 9) = true := by simp; omega
            clear hlen
            go_enter Tryd.func18, Tryd.ntmps18
            go_wp2_with (with_reducible refine halt_op (some 57) (.slice _ _ _ _ _) (fun K hK => ?_))
            refine go_on hK ?_; clear hK
            refine slice_step bytesE rfl (.tmp 50) (some (.tmp 52)) (some (.tmp 56)) rfl rfl (i := p + 1) (j := p + 1 + 8) (Bnd.at_ (k := .i64) rfl) (Bnd.at_ (k := .i64) rfl) (unhid HR) (by omega) t5 hc ?_
            intro A2 r2
            rw [HCUT.out, show p + 1 + 8 - (p + 1) = 8 by omega] at r2
            have R2 := hid r2
            clear r2
            rw [show p + 1 + 8 - (p + 1) = 8 by omega]
            go_wp2_with fail
            refine (rnum_ok L A2 8 _ _ _ (unhid R2) HLB.out (by decide) (by decide) HBIG.out).mono ?_
            rintro e w' ⟨rfl, rfl⟩
            rw [HV.out]
            go_wp2_with fail
            refine (rsize_any v _ v0 v1).mono ?_
            rintro e w2 ⟨A3, c3, rfl, _, hb2⟩
            rw [HQ.out]
            have F2 : Hid (Below w.heap.size w w2) := hid (((Below.refl _ _).alloc (Nat.le_refl _) _).trans (hb2.mono (by simp)))
            have B2 : Hid (Blk w2 w.heap.size 43 #[.int .i64 0, .int .i64 0, .int .i64 0]) := hid ((Blk.new w 43 #[.int .i64 0, .int .i64 0, .int .i64 0]).below hb2 (by simp))
            have d0 := (unhid B2).cell 0; have d1 := (unhid B2).cell 1; have d2 := (unhid B2).cell 2
            have z0 := (unhid B2).free 0; have z1 := (unhid B2).free 1; have z2 := (unhid B2).free 2
            have sz := (unhid B2).lt'
            simp at d0 d1 d2
            clear hb2
            go_wp2_with fail
            have b3 := (((unhid B2).put 0 (.int .i64 0)).put 1 (.int .i64 (0))).put 2 (.int .i64 1)
            simp only [Array.setIfInBounds, List.size_toArray, List.length_cons, List.length_nil] at b3
            refine bodyPost_ret (results_cell_row rfl _ _ w.heap.size _ #[.int .i64 0, .int .i64 (0), .int .i64 1] (0, 0) _ rfl b3 Tryd.underlying43 rfl (by kernel_rfl)) rfl ?_
            show GotP w _ _ _ _ _
            rw [HRA.out]
            exact ⟨rfl, (((unhid F2).setCell (p := ⟨w.heap.size, 0, none⟩) (Nat.le_refl _) _).setCell (p := ⟨w.heap.size, 1, none⟩) (Nat.le_refl _) _).setCell (p := ⟨w.heap.size, 2, none⟩) (Nat.le_refl _) _⟩
      · have hW8 : W = 8 := by
          rcases hw1 with h | h | h
          · exfalso; rw [hLl, h, show (256 : Int) ^ 2 = 65536 from rfl] at hvb; omega
          · exfalso; rw [hLl, h, show (256 : Int) ^ 4 = 4294967296 from rfl] at hvb; omega
          · exact h
        rw [if_pos (.inl (by omega))] at hra
        have HRA := hid hra; have HBIG := hid hbig; have HLl := hid hLl
        clear hra hbig hvb hw1 hLl
        rcases hx3 with ⟨rfl, h⟩ | ⟨rfl, h⟩ | ⟨rfl, h⟩
        · omega
        · omega
        · subst hW8
          clear h
          have hb2 : True := trivial
          go_enter Tryd.func18, Tryd.ntmps18
          go_wp2_with (with_reducible refine halt_op (some 57) (.slice _ _ _ _ _) (fun K hK => ?_))
          refine go_on hK ?_; clear hK
          refine slice_step bytesE rfl (.tmp 50) (some (.tmp 52)) (some (.tmp 56)) rfl rfl (i := p + 1) (j := p + 1 + 8) (Bnd.at_ (k := .i64) rfl) (Bnd.at_ (k := .i64) rfl) (unhid HR) (by omega) t5 hc ?_
          intro A2 r2
          rw [HCUT.out, show p + 1 + 8 - (p + 1) = 8 by omega] at r2
          have R2 := hid r2
          clear r2
          rw [show p + 1 + 8 - (p + 1) = 8 by omega]
          go_wp2_with fail
          refine (rnum_no L A2 8 _ _ _ (unhid R2) HLB.out rfl (by have := HBIG.out; omega)).mono ?_
          rintro e w' ⟨rfl, rfl⟩
          clear hb2
          go_wp2_with fail
          refine bodyPost_ret (results_cell_row rfl _ _ w.heap.size _ #[.int .i64 0, .int .i64 0, .int .i64 1] (0, 0) _ rfl (Blk.new w 43 #[.int .i64 0, .int .i64 0, .int .i64 1]) Tryd.underlying43 rfl (by kernel_rfl)) rfl ?_
          show GotP w _ _ _ _ _
          rw [HRA.out]
          exact ⟨rfl, (Below.refl _ _).alloc (Nat.le_refl _) _⟩
theorem sizeAt_any (l : List Int) (A : Option Addr) (n c D : Nat) (at_ : Int) (w : World) (hr : Row w D 1 A n (l.map (Value.int .u8))) (hb : Siz.Bytes l) (hn : n ≤ 4611686018427387904) (hc : n ≤ c) (hD : D ≤ w.heap.size) :
    Calls Tryd.prog 18 #[.slice A n c, .int .i64 at_] w (GotP w (readAt l at_).1 (readAt l at_).2.1 (readAt l at_).2.2) := by
  have hl := hr.length
  by_cases h0 : at_ < 0
  · have HRA := hid (show readAt l at_ = (0, 0, 2) by unfold readAt; rw [if_pos h0])
    clear hr hb
    go_enter Tryd.func18, Tryd.ntmps18
    go_wp2_with fail
    refine bodyPost_ret (results_cell_row rfl _ _ w.heap.size _ #[.int .i64 0, .int .i64 0, .int .i64 2] (0, 0) _ rfl (Blk.new w 43 #[.int .i64 0, .int .i64 0, .int .i64 2]) Tryd.underlying43 rfl (by kernel_rfl)) rfl ?_
    show GotP w _ _ _ _ _
    rw [HRA.out]
    exact ⟨rfl, (Below.refl _ _).alloc (Nat.le_refl _) _⟩
  · by_cases h1 : (l.length : Int) ≤ at_
    · have HRA := hid (show readAt l at_ = (0, 0, 3) by unfold readAt; rw [if_neg h0, if_pos h1])
      have t1 : (n : Int) ≤ at_ := by omega
      have t2 : 0 ≤ at_ := by omega
      clear hr hb h1 hl
      go_enter Tryd.func18, Tryd.ntmps18
      go_wp2_with fail
      refine bodyPost_ret (results_cell_row rfl _ _ w.heap.size _ #[.int .i64 0, .int .i64 0, .int .i64 3] (0, 0) _ rfl (Blk.new w 43 #[.int .i64 0, .int .i64 0, .int .i64 3]) Tryd.underlying43 rfl (by kernel_rfl)) rfl ?_
      show GotP w _ _ _ _ _
      rw [HRA.out]
      exact ⟨rfl, (Below.refl _ _).alloc (Nat.le_refl _) _⟩
    · obtain ⟨p, rfl⟩ := Int.eq_ofNat_of_zero_le (show 0 ≤ at_ by omega)
      exact sizeAt_in l A n c D p w hr hb hn hc (by omega) hD
end Go.Proofs.YtopddinpmiefjaaDoor
