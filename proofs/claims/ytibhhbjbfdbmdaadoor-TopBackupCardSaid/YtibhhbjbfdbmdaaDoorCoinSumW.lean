/- The walks of coin.total and coin.Sum. -/
import Derived.Test.YtibhhbjbfdbmdaaDoorCheckW
namespace Go.Proofs.YtibhhbjbfdbmdaaDoor
set_option linter.unusedVariables false
open Go.RowKit Go.Mny
theorem intE : Elt Tryd.prog 25 3 1 8 := Elt.of Tryd.underlying25 (.int .i64 0) (by kernel_rfl) rfl (by decide)
def amts (l : List CoC) : List Int := l.map (·.amt)
theorem Row.litI (w : World) (e : Nat) (x : Int) : Row (w.alloc (.cells #[.int .i64 x] e)) (w.heap.size + 1) 1 (some ⟨w.heap.size, 0, none⟩) 1 [.int .i64 x] := by
  refine ⟨rfl, fun _ => ⟨w.heap.size, 0, rfl, by omega, fun j _ => ?_⟩⟩
  rw [Nat.zero_add, cell_of_row _ _ j #[.int .i64 x] e (0, 0) (heap_alloc_new w _)]
  simp
theorem one_int (x : Int) : ∀ u ∈ [Value.int .i64 x], u.oneCell' = true := by intro u hu; rw [List.mem_singleton.1 hu]; rfl
def TotalP (w : World) (l : List CoC) (e : Ending) (w' : World) : Prop := e = .returned (.tuple #[.int .i64 (Mon.sumGo 0 (amts l)).1, errV (Mon.sumGo 0 (amts l)).2]) ∧ Below w.heap.size w w'
set_option maxHeartbeats 4000000 in
set_option maxRecDepth 100000 in
theorem total_any (l : List CoC) (A : Option Addr) (n c D : Nat) (w : World) (h : Coins w D A n l) (hD : D ≤ w.heap.size) (hn : n ≤ 1000) :
    Calls Tryd.prog 39 #[.slice A n c] w (TotalP w l) := by
  have HLEN := hid h.len
  have H := hid h
  clear h
  go_enter Tryd.func39, Tryd.ntmps39
  go_wp2_with fail
  go_loopw [9, 4] (fun v9 v4 wr => ∃ (i : Nat) (A2 : Option Addr) (c2 : Nat), i ≤ n ∧ v9 = .int .i64 (i : Int) ∧ v4 = .slice A2 i c2 ∧ Hid (Own wr w.heap.size 3 1 A2 i c2 ((amts (l.take i)).map (Value.int .i64))) ∧ Hid (Below w.heap.size w wr)) (fun v9 _ _ => n - (intOf v9).toNat)
  case atStart => exact ⟨0, none, 0, Nat.zero_le _, rfl, rfl, Own.none _ _ _ _, Below.refl _ _⟩
  case round =>
    obtain ⟨i, A2, c2, hi, rfl, rfl, HO, HB⟩ := hrel
    have hsz := (unhid HB).size
    by_cases hlt : i < n
    · obtain ⟨g, q, x, rfl, hg, hx, hrg, hok⟩ := ((unhid H).below ((unhid HB).mono hD)).get hlt
      have i2 : (i : Int) < (n : Int) := by omega
      have CL := hid (coc_len (unhid hok).tx)
      have TXL := hid (unhid hok).tx
      have HN : Hid ((amts (l.take i)).map (Value.int .i64) ++ [.int .i64 x.amt] = (amts (l.take (i + 1))).map (Value.int .i64)) := by
        show _ = _
        rw [List.take_add_one, hx.out]; simp [amts]
      obtain ⟨wk, hwk⟩ : ∃ wk : World, wk = wr := ⟨_, rfl⟩
      rw [← hwk] at HB hsz hrg HO
      rw [← hwk]
      clear hwk hok hx
      go_wp2_with (with_reducible refine halt_op (some 12) (.load _ _) (fun K hK => ?_))
      refine go_on hK ?_; clear hK
      refine load_mid coinT rfl (.tmp 11) rfl rfl (unhid hrg) CL.out ?_
      go_wp2_with (with_reducible refine halt_op (some 6) (.alloc _) (fun K hK => ?_))
      refine go_on hK ?_; clear hK
      refine alloc_row _ coinZ_is rfl rfl ?_
      rintro g6 w4 hg6 s4 b4 e4
      have h6 : wk.heap.size ≤ g6 := by omega
      have h64 : g6 < w4.heap.size := b4.lt'
      clear hg6 s4
      refine store_row coinT (vs := coc x) rfl (.tmp 6) (.tmp 12) rfl rfl rfl CL.out (coc_one x) b4 coinZ_size ?_
      intro w5 b5 g5
      have E5 : Below g6 wk w5 := e4.grown g5 (by omega) (fun q hq => by injection hq with hq; omega)
      have HB5 := hid ((unhid HB).trans (E5.mono (by omega)))
      have HO5 := hid ((unhid HO).below E5 (by omega))
      obtain ⟨c32, c33, c34, c35⟩ := coin_cells0 b5.rangeL TXL.out
      have hs5 := (unhid HB5).size
      clear b4 e4 b5 g5 E5 hrg HB HO hsz c32 c34 c35
      go_wp2_with (at_builtin; refine halt_at (fun K hK => ?_))
      refine go_on hK ?_; clear hK
      refine app_step intE rfl (.tmp 13) (.tmp 17) rfl rfl ((unhid HO5).alloc _) rfl (Row.litI w5 _ x.amt) (one_int _) (by simp [maxLen]; omega) (by omega) (by simp; omega) ?_
      intro A3 c3 w6 o6 g6' l6
      rw [HN.out] at o6
      have O6 := hid o6
      have HB6 := hid (Below.grown ((unhid HB5).alloc hs5 _) g6' (by simp; omega) (fun q hq => ((unhid HO5).from_ q hq).1))
      clear o6 g6' l6 HB5 HO5 c33
      go_wp2_with fail
      go_roundw
      case rel => exact ⟨i + 1, A3, c3, by omega, by go_num, rfl, O6, HB6⟩
      case measure => simp [intOf]; omega
    · have hin : i = n := by omega
      subst hin
      rw [List.take_of_length_le (by rw [HLEN.out]; exact Nat.le_refl _)] at HO
      go_wp2_with fail
      refine (msum_any A2 i c2 _ (amts l) _ (Row.of_own (unhid HO)) (by omega)).mono ?_
      rintro e w' ⟨rfl, rfl⟩
      go_wp2_with fail
      go_ret2
      exact ⟨rfl, unhid HB⟩
/-- what coin.Sum tells: the sum, and the number of what is wrong -/
def sumC (l : List CoC) : Int × Int := if checkN l = 0 then Mon.sumGo 0 (amts l) else (0, checkN l)
def CoinSumP (w : World) (l : List CoC) (e : Ending) (w' : World) : Prop := e = .returned (.tuple #[.int .i64 (sumC l).1, errV (sumC l).2]) ∧ Below w.heap.size w w'
set_option maxHeartbeats 4000000 in
theorem coinSum_any (l : List CoC) (A : Option Addr) (n c D : Nat) (w : World) (h : Coins w D A n l) (hD : D ≤ w.heap.size) :
    Calls Tryd.prog 20 #[.slice A n c] w (CoinSumP w l) := by
  have H := hid h
  clear h
  have C1 := hid (check_any l A n c D w (unhid H) hD)
  by_cases hz : checkN l = 0
  · have hn : n ≤ 1000 := by rw [← (unhid H).len]; exact (checkN_good hz).1
    have E : Hid (sumC l = Mon.sumGo 0 (amts l)) := by show _ = _; unfold sumC; rw [if_pos hz]
    have he : errV (checkN l) = .nilIface := by rw [hz]; rfl
    have HE := hid he
    clear he hz
    go_enter Tryd.func20, Tryd.ntmps20
    go_wp2_with fail
    refine (unhid C1).mono ?_
    rintro e w1 ⟨rfl, hb1⟩
    rw [HE.out]
    have B1 := hid hb1
    clear hb1
    go_wp2_with fail
    refine (total_any l A n c D _ ((unhid H).below ((unhid B1).mono hD)) (by have := (unhid B1).size; omega) hn).mono ?_
    rintro e w2 ⟨rfl, hb2⟩
    have B2 := hid ((unhid B1).trans (hb2.mono (unhid B1).size))
    rw [← E.out]
    clear hb2
    go_wp2_with fail
    go_ret2
    exact ⟨rfl, unhid B2⟩
  · have E : Hid (sumC l = (0, checkN l)) := by show _ = _; unfold sumC; rw [if_neg hz]
    have he : errV (checkN l) = .iface 55 (.int .i64 (checkN l)) := by unfold errV; rw [if_neg hz]
    have HE := hid he
    clear he hz
    go_enter Tryd.func20, Tryd.ntmps20
    go_wp2_with fail
    refine (unhid C1).mono ?_
    rintro e w1 ⟨rfl, hb1⟩
    rw [HE.out]
    have B1 := hid hb1
    clear hb1
    go_wp2_with fail
    go_ret2
    exact ⟨by rw [E.out, HE.out]; rfl, unhid B1⟩
end Go.Proofs.YtibhhbjbfdbmdaaDoor
