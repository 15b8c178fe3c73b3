/- The walks of share.Weights. -/
import Derived.Test.YtilaipdpbcfhkaaDoorShr
import Derived.Test.YtilaipdpbcfhkaaDoorFieldW
namespace Go.Proofs.YtilaipdpbcfhkaaDoor
set_option linter.unusedVariables false
open Go.RowKit Go.Mny
theorem bytW : Elt Tryd.prog 33 5 1 1 := Elt.of Tryd.underlying33 (.int .u8 0) (by kernel_rfl) rfl (by decide)
theorem wt_snoc (x a b : Nat) : ∀ (l : List Nat) (w : Nat), Fld.wt x a (l ++ [b]) w = Fld.mul (Fld.wt x a l w) (Fld.mul (x ^^^ b) (Fld.inv (a ^^^ b)))
  | [], w => rfl
  | c :: l, w => by rw [List.cons_append, Fld.wt, wt_snoc x a b l, Fld.wt]
theorem othTo_ne {l : List Nat} {i j b : Nat} (hb : l[j]? = some b) (h : j ≠ i) : (l.take (j + 1)).eraseIdx i = (l.take j).eraseIdx i ++ [b] := by
  have hj := (List.getElem?_eq_some_iff.1 hb).1
  rw [List.take_add_one, hb]
  have hl : (l.take j).length = j := by rw [List.length_take]; omega
  by_cases hij : i < j
  · rw [Option.toList_some, List.eraseIdx_append_of_lt_length (by omega)]
  · rw [Option.toList_some, List.eraseIdx_of_length_le (by simp; omega), List.eraseIdx_of_length_le (by omega)]
theorem othTo_eq {l : List Nat} {j b : Nat} (hb : l[j]? = some b) : (l.take (j + 1)).eraseIdx j = (l.take j).eraseIdx j := by
  have hj := (List.getElem?_eq_some_iff.1 hb).1
  have hl : (l.take j).length = j := by rw [List.length_take]; omega
  rw [List.take_add_one, hb, Option.toList_some, List.eraseIdx_append_of_length_le (by omega), hl, Nat.sub_self, List.eraseIdx_of_length_le (by omega : (l.take j).length ≤ j)]
  simp
theorem inv_zero : Fld.inv 0 = 0 := by decide +kernel
theorem inv_any (a : Nat) (w : World) (ha : a < 256) :
    Calls Tryd.prog 10 #[.int .u8 a] w fun e w' => ∃ v, e = .returned (.tuple #[.int .u8 (Fld.inv a : Nat), v]) ∧ w = w' := by
  by_cases h0 : a = 0
  · subst h0
    rw [inv_zero]
    go_enter Tryd.func10, Tryd.ntmps10
    go_wp2_with fail
    go_ret2
    exact ⟨_, rfl, rfl⟩
  · exact (inv_ok a w ha h0).mono fun e w' h => ⟨_, h⟩
def wgtN (at_ : List Nat) (x k : Nat) : List Nat := (List.range k).map fun i => Fld.weight at_ x i
theorem wgtN_len (at_ : List Nat) (x k : Nat) : (wgtN at_ x k).length = k := by simp [wgtN]
theorem wgtN_succ (at_ : List Nat) (x k : Nat) : wgtN at_ x (k + 1) = wgtN at_ x k ++ [Fld.weight at_ x k] := by simp [wgtN, List.range_succ]
def WgtP (at_ : List Nat) (x n : Nat) (w : World) (e : Ending) (w' : World) : Prop :=
  ∃ A c, e = .returned (.slice A n c) ∧ Own w' w.heap.size 5 1 A n c (byt (wgtN at_ x n)) ∧ Below w.heap.size w w'
set_option maxHeartbeats 2000000 in
set_option maxRecDepth 100000 in
theorem weights_any (at_ : List Nat) (x : Nat) (A : Option Addr) (n c D : Nat) (w : World) (hr : Row w D 1 A n (byt at_)) (hD : D ≤ w.heap.size) (hn : n ≤ 1048576) (a8 : By8s at_) (hx : x < 256) :
    Calls Tryd.prog 36 #[.slice A n c, .int .u8 (x : Int)] w (WgtP at_ x n w) := by
  have hal : at_.length = n := by have := hr.len; rw [byt_len] at this; omega
  have HR := hid hr; have A8 := hid a8; have HAL := hid hal
  clear hr a8 hal
  go_enter Tryd.func36, Tryd.ntmps36
  go_wp2_with fail
  go_loopw [5, 15] (fun v5 v15 wr => ∃ (i : Nat) (AO : Option Addr) (cO : Nat), i ≤ n ∧ v15 = .int .i64 i ∧ v5 = .slice AO i cO ∧ Hid (Own wr w.heap.size 5 1 AO i cO (byt (wgtN at_ x i))) ∧ Hid (Below w.heap.size w wr)) (fun _ v15 _ => n - (intOf v15).toNat)
  case atStart => exact ⟨0, none, 0, Nat.zero_le _, rfl, rfl, Own.none _ _ _ _, Below.refl _ _⟩
  case round =>
    obtain ⟨i, AO, cO, hi, rfl, rfl, HO, HB⟩ := hrel
    have bs := (unhid HB).size
    by_cases hlt : i < n
    · have RW := hid ((unhid HR).below ((unhid HB).mono hD))
      obtain ⟨g, o, a, rfl, hg, ha, hc⟩ := (unhid RW).byte hlt
      have ha8 : a < 256 := A8.out a (List.mem_of_getElem? ha)
      have had : at_.getD i 0 = a := by rw [List.getD_eq_getElem?_getD, ha]; rfl
      have HAD := hid had; have HA := hid ha
      have i1 : (0 : Int) ≤ (i : Int) := by omega
      have i2 : (i : Int) < (n : Int) := by omega
      clear ha had
      go_wp2_with fail
      go_loop [8, 22] (fun v8 v22 => ∃ (j v : Nat), j ≤ n ∧ v22 = .int .i64 j ∧ v8 = .int .u8 v ∧ v < 256 ∧ Hid (v = Fld.wt x a ((at_.take j).eraseIdx i) 1)) (fun _ v22 => n - (intOf v22).toNat)
      case atStart => exact ⟨0, 1, Nat.zero_le _, rfl, rfl, by decide, by show _ = _; simp [Fld.wt]⟩
      case round =>
        obtain ⟨j, v, hj, rfl, rfl, hv, HE⟩ := hrel
        by_cases hjl : j < n
        · obtain ⟨g', o', b, e, hg', hb, hcb⟩ := (unhid RW).byte hjl
          injection e with e; injection e with e1 e2; subst e1; subst e2
          have hb8 : b < 256 := A8.out b (List.mem_of_getElem? hb)
          have j1 : (0 : Int) ≤ (j : Int) := by omega
          have j2 : (j : Int) < (n : Int) := by omega
          by_cases hji : j = i
          · subst hji
            have hoe := othTo_eq hb
            have HOE := hid hoe
            have hne : ((j : Int) == (j : Int)) = true := by simp
            clear hb hoe
            go_wp2_with fail
            go_round
            case rel => exact ⟨j + 1, v, by omega, by go_num, rfl, hv, by show _ = _; rw [HOE.out]; exact HE.out⟩
            case measure => simp [intOf]; omega
          · have hon := othTo_ne hb hji
            have hw := wt_snoc x a b ((at_.take j).eraseIdx i) 1
            rw [← hon, ← HE.out] at hw
            have hne : ((j : Int) == (i : Int)) = false := by simp; omega
            have x1 : a ^^^ b < 256 := Fld.xor_lt _ _ ha8 hb8
            have x2 : x ^^^ b < 256 := Fld.xor_lt _ _ hx hb8
            have x3 : Fld.inv (a ^^^ b) < 256 := Fld.inv_lt _ x1
            have C1 := hid (fun w' : World => add_any a b w' ha8 hb8)
            have C2 := hid (fun w' : World => inv_any (a ^^^ b) w' x1)
            have C3 := hid (fun w' : World => add_any x b w' hx hb8)
            obtain ⟨p, hp⟩ : ∃ p, a ^^^ b = p := ⟨_, rfl⟩
            obtain ⟨q, hq⟩ : ∃ q, x ^^^ b = q := ⟨_, rfl⟩
            rw [hp] at C1 C2 x3 hw
            rw [hq] at C3 x2 hw
            obtain ⟨r, hr⟩ : ∃ r, Fld.inv p = r := ⟨_, rfl⟩
            rw [hr] at C2 x3 hw
            have x4 : Fld.mul q r < 256 := Fld.mul_lt _ _ x2
            have C4 := hid (fun w' : World => mul_any q r w' x2 x3)
            obtain ⟨s, hs⟩ : ∃ s, Fld.mul q r = s := ⟨_, rfl⟩
            rw [hs] at C4 x4 hw
            have x5 : Fld.mul v s < 256 := Fld.mul_lt _ _ hv
            have C5 := hid (fun w' : World => mul_any v s w' hv x4)
            obtain ⟨t, ht⟩ : ∃ t, Fld.mul v s = t := ⟨_, rfl⟩
            rw [ht] at C5 x5 hw
            have HW := hid hw.symm
            clear hb hon hw hp hq hr hs ht hji
            go_wp2_with fail
            refine ((unhid C1) _).mono ?_
            rintro e w' ⟨rfl, rfl⟩
            go_wp2_with fail
            refine ((unhid C2) _).mono ?_
            rintro e w' ⟨ve, rfl, rfl⟩
            go_wp2_with fail
            refine ((unhid C3) _).mono ?_
            rintro e w' ⟨rfl, rfl⟩
            go_wp2_with fail
            refine ((unhid C4) _).mono ?_
            rintro e w' ⟨rfl, rfl⟩
            go_wp2_with fail
            refine ((unhid C5) _).mono ?_
            rintro e w' ⟨rfl, rfl⟩
            go_wp2_with fail
            go_round
            case rel => exact ⟨j + 1, t, by omega, by go_num, rfl, x5, HW⟩
            case measure => simp [intOf]; omega
        · have hjn : j = n := by omega
          have j2 : ¬ (j : Int) < (n : Int) := by omega
          have hfin : v = Fld.weight at_ x i := by
            rw [HE.out, List.take_of_length_le (by rw [HAL.out]; omega)]
            unfold Fld.weight Fld.others
            rw [HAD.out]
          have hsu := wgtN_succ at_ x i
          rw [← hfin] at hsu
          have HSU := hid hsu
          clear hfin hsu HE
          go_wp2_with (at_builtin; refine halt_at (fun K hK => ?_))
          refine go_on hK ?_; clear hK
          refine app_step bytW rfl (.tmp 45) (.tmp 47) rfl rfl ((unhid HO).alloc _) rfl (Row.lit_at _ _ _ _ _ (byt [v]) rfl rfl rfl) (byt_one _) (by simp [maxLen]; omega) (by omega) (by simp; omega) ?_
          intro A2 c2 w3 o3 g3 l3
          have b3 : Below w.heap.size w w3 := Below.grown ((unhid HB).alloc bs _) g3 (by simp; omega) (fun q hq => ((unhid HO).from_ q hq).1)
          rw [← byt_append, ← HSU.out] at o3
          have HO3 := hid o3; have HB3 := hid b3
          clear o3 b3 g3 l3 HO HB RW
          go_wp2_with fail
          go_roundw
          case rel => exact ⟨i + 1, A2, c2, by omega, by go_num, rfl, HO3, HB3⟩
          case measure => simp [intOf]; omega
    · have hin : i = n := by omega
      subst hin
      have i2 : ¬ (i : Int) < (i : Int) := by omega
      go_wp2_with fail
      go_ret
      exact ⟨AO, cO, rfl, unhid HO, unhid HB⟩
end Go.Proofs.YtilaipdpbcfhkaaDoor
