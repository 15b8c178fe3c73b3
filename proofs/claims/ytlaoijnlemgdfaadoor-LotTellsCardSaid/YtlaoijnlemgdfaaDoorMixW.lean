/- The walk of lot.Mix. -/
import Derived.Test.YtlaoijnlemgdfaaDoorXorW
import Derived.Test.YtlaoijnlemgdfaaDoorDig
namespace Go.Proofs.YtlaoijnlemgdfaaDoor
set_option linter.unusedVariables false
open Go.RowKit Go.Mny
theorem digestT : ArrI Tryd.prog 23 5 32 .u8 := ⟨Tryd.underlying23, Tryd.underlying5, by kernel_rfl, by kernel_rfl, by kernel_rfl⟩
theorem byteSize : (Tryd.prog.info? 5).map (·.size) = some 1 := by kernel_rfl
def By8 (l : List Int) : Prop := ∀ z ∈ l, 0 ≤ z ∧ z < 256
theorem By8.of_wf {l : List Int} (h : ∀ z ∈ l, (Lit.int .u8 z).wf = true) : By8 l := fun z hz => by have := bounds_u8 (h z hz); omega
def xi (a b : Int) : Int := ((a.toNat ^^^ b.toNat : Nat) : Int)
theorem xi_bd {a b : Int} (ha : 0 ≤ a ∧ a < 256) (hb : 0 ≤ b ∧ b < 256) : 0 ≤ xi a b ∧ xi a b < 256 := by
  have := xor_lt' a.toNat b.toNat (by omega) (by omega)
  unfold xi; omega
theorem u8_xi {a b : Int} (ha : 0 ≤ a ∧ a < 256) (hb : 0 ≤ b ∧ b < 256) : bits .xor .u8 a b = xi a b := by
  obtain ⟨x, rfl⟩ := Int.eq_ofNat_of_zero_le ha.1
  obtain ⟨y, rfl⟩ := Int.eq_ofNat_of_zero_le hb.1
  rw [u8_xor' x y (by omega) (by omega)]; rfl
/-- o, with d in its first k places. -/
def upTo (o d : List Int) (k : Nat) : List Int := (List.zipWith xi o d).take k ++ o.drop k
def zeros : List Int := List.replicate 32 0
def mixL (L : List (List Int)) : List Int := L.foldl (List.zipWith xi) zeros
theorem zip_len {o d : List Int} (ho : o.length = 32) (hd : d.length = 32) : (List.zipWith xi o d).length = 32 := by rw [List.length_zipWith]; omega
theorem zip_by {o d : List Int} (ho : By8 o) (hd : By8 d) : By8 (List.zipWith xi o d) := by
  intro z hz
  obtain ⟨i, hi, rfl⟩ := List.getElem_of_mem hz
  rw [List.getElem_zipWith]
  exact xi_bd (ho _ (List.getElem_mem _)) (hd _ (List.getElem_mem _))
theorem mix_ok : ∀ (L : List (List Int)) (o : List Int), (∀ l ∈ L, l.length = 32 ∧ By8 l) → o.length = 32 → By8 o → (L.foldl (List.zipWith xi) o).length = 32 ∧ By8 (L.foldl (List.zipWith xi) o)
  | [], o, _, h1, h2 => ⟨h1, h2⟩
  | l :: L, o, h, h1, h2 => mix_ok L _ (fun x hx => h x (by simp [hx])) (zip_len h1 (h l (by simp)).1) (zip_by h2 (h l (by simp)).2)
theorem zeros_by : By8 zeros := fun z hz => by simp [zeros] at hz; omega
theorem upTo_len {o d : List Int} {k : Nat} (ho : o.length = 32) (hd : d.length = 32) (hk : k ≤ 32) : (upTo o d k).length = 32 := by
  rw [upTo, List.length_append, List.length_take, zip_len ho hd, List.length_drop]; omega
theorem upTo_at {o d : List Int} {k : Nat} (ho : o.length = 32) (hd : d.length = 32) (hk : k < 32) : (upTo o d k)[k]? = o[k]? := by
  rw [upTo, List.getElem?_append_right (by rw [List.length_take, zip_len ho hd]; omega), List.length_take, zip_len ho hd, List.getElem?_drop]
  congr 1; omega
theorem upTo_set {o d : List Int} {k : Nat} {x y : Int} (ho : o.length = 32) (hd : d.length = 32) (hk : k < 32) (hx : o[k]? = some x) (hy : d[k]? = some y) : (upTo o d k).set k (xi x y) = upTo o d (k + 1) := by
  refine List.ext_getElem? fun j => ?_
  have hz : (List.zipWith xi o d)[k]? = some (xi x y) := by rw [List.getElem?_zipWith, hx, hy]
  by_cases hj : j = k
  · subst hj
    rw [List.getElem?_set_self (by rw [upTo_len ho hd (by omega)]; exact hk), upTo, List.getElem?_append_left (by rw [List.length_take, zip_len ho hd]; omega), List.getElem?_take, if_pos (by omega), hz]
  · rw [List.getElem?_set_ne (by omega)]
    unfold upTo
    by_cases h : j < k
    · rw [List.getElem?_append_left (by rw [List.length_take, zip_len ho hd]; omega), List.getElem?_append_left (by rw [List.length_take, zip_len ho hd]; omega), List.getElem?_take, List.getElem?_take, if_pos h, if_pos (by omega)]
    · rw [List.getElem?_append_right (by rw [List.length_take, zip_len ho hd]; omega), List.getElem?_append_right (by rw [List.length_take, zip_len ho hd]; omega), List.length_take, List.length_take, zip_len ho hd, List.getElem?_drop, List.getElem?_drop]
      congr 1; omega
theorem upTo_all {o d : List Int} (ho : o.length = 32) (hd : d.length = 32) : upTo o d 32 = List.zipWith xi o d := by
  rw [upTo, List.drop_of_length_le (by omega), List.append_nil, List.take_of_length_le (by rw [zip_len ho hd]; exact Nat.le_refl _)]
/-- o, with z in its first k places. -/
def patch (z o : List Int) (k : Nat) : List Int := z.take k ++ o.drop k
theorem patch_len {z o : List Int} {k n : Nat} (hz : z.length = n) (ho : o.length = n) (hk : k ≤ n) : (patch z o k).length = n := by
  rw [patch, List.length_append, List.length_take, List.length_drop]; omega
theorem patch_set {z o : List Int} {k n : Nat} {y : Int} (hz : z.length = n) (ho : o.length = n) (hk : k < n) (hy : z[k]? = some y) : (patch z o k).set k y = patch z o (k + 1) := by
  refine List.ext_getElem? fun j => ?_
  by_cases hj : j = k
  · subst hj
    rw [List.getElem?_set_self (by rw [patch_len hz ho (by omega)]; exact hk), patch, List.getElem?_append_left (by rw [List.length_take]; omega), List.getElem?_take, if_pos (by omega), hy]
  · rw [List.getElem?_set_ne (by omega)]
    unfold patch
    by_cases h : j < k
    · rw [List.getElem?_append_left (by rw [List.length_take]; omega), List.getElem?_append_left (by rw [List.length_take]; omega), List.getElem?_take, List.getElem?_take, if_pos h, if_pos (by omega)]
    · rw [List.getElem?_append_right (by rw [List.length_take]; omega), List.getElem?_append_right (by rw [List.length_take]; omega), List.length_take, List.length_take, List.getElem?_drop, List.getElem?_drop]
      congr 1; omega
theorem patch_all {z o : List Int} {n : Nat} (hz : z.length = n) (ho : o.length = n) : patch z o n = z := by
  rw [patch, List.drop_of_length_le (by omega), List.append_nil, List.take_of_length_le (by omega)]
set_option maxHeartbeats 1000000 in
set_option maxRecDepth 100000 in
theorem mix_any (A : Option Addr) (n c : Nat) (L : List (List Int)) (w : World) (h : Row w w.heap.size 32 A n (L.flatten.map (Value.int .u8))) (hL : L.length = n) (h8 : ∀ l ∈ L, l.length = 32 ∧ By8 l) (hn : n ≤ 9223372036854775807) :
    Calls Tryd.prog 19 #[.slice A n c] w fun e w' => e = .returned (.agg (cellsOf .u8 (mixL L))) ∧ Below w.heap.size w w' := by
  have H := hid h; have H8 := hid h8; have HL := hid hL
  clear h h8 hL
  go_enter Tryd.func19, Tryd.ntmps19
  go_wp2_with (with_reducible refine halt_op (some 2) (.alloc _) (fun K hK => ?_))
  refine go_on hK ?_; clear hK
  refine alloc_arr digestT rfl rfl ?_
  rintro g w1 rfl s1 b1 e1
  have B1 := hid b1; have E1 := hid e1; clear b1 e1 s1
  go_wp2_with fail
  go_loopw [9] (fun v9 wr => ∃ k : Nat, k ≤ n ∧ v9 = .int .i64 k ∧ Hid (Blk wr w.heap.size 23 (cellsOf .u8 (mixL (L.take k)))) ∧ Hid (Below w.heap.size w wr)) (fun v9 _ => n - (intOf v9).toNat)
  case atStart => exact ⟨0, Nat.zero_le _, rfl, B1, E1⟩
  case round =>
    obtain ⟨k, hk, rfl, HB, HE⟩ := hrel
    have mo := mix_ok (L.take k) zeros (fun l hl => H8.out l (List.mem_of_mem_take hl)) (by simp [zeros]) zeros_by
    by_cases hlt : k < n
    · obtain ⟨d, hd⟩ : ∃ d, L[k]? = some d := ⟨_, List.getElem?_eq_getElem (by rw [HL.out]; exact hlt)⟩
      have hd8 := H8.out d (List.mem_of_getElem? hd)
      have DL := hid hd8.1; have D8 := hid hd8.2; clear hd8
      obtain ⟨g, o, rfl, hg, hr⟩ := ((unhid H).below (unhid HE)).elem hlt
      have hr2 : Hid (wr.rangeAt g (o + k * 32) (d.map (Value.int .u8))) := by
        have := hr.out
        rw [← List.map_drop, ← List.map_take, flat_at (fun l hl => (H8.out l hl).1) hd] at this
        exact this
      clear hr
      have mk1 : Hid (mixL (L.take (k + 1)) = List.zipWith xi (mixL (L.take k)) d) := by
        show _ = _
        rw [List.take_add_one, hd]; simp [mixL, List.foldl_append]
      have ML := hid (show (mixL (L.take k)).length = 32 from mo.1)
      have M8 := hid (show By8 (mixL (L.take k)) from mo.2)
      generalize mixL (L.take k) = o1 at *
      clear mo hd
      have i1 : (0 : Int) ≤ (k : Int) := by omega
      have i2 : (k : Int) < (n : Int) := by omega
      go_wp2_with (with_reducible refine halt_op (some 12) (.load _ _) (fun K hK => ?_))
      refine go_on hK ?_; clear hK
      refine load_ints digestT (l := d) rfl (.tmp 11) rfl rfl (unhid hr2) DL.out ?_
      refine alloc_arr digestT rfl rfl ?_
      rintro g2 w2 rfl s2 b2 e2
      refine store_arr digestT (l := d) rfl (.tmp 4) (.tmp 12) rfl rfl rfl DL.out b2 (by simp [cellsOf]) ?_
      intro w3 b3 g3
      have e3 : Below wr.heap.size wr w3 := Below.grown e2 g3 (by omega) (fun q hq => by injection hq with hq; omega)
      have B2 := hid b3
      have hgo : w.heap.size < wr.heap.size := (unhid HB).lt'
      have HB3 := hid ((unhid HB).below e3 hgo)
      have HE3 := hid ((unhid HE).trans (e3.mono (by omega)))
      clear b2 b3 e2 e3 g3 s2 HB HE hr2
      go_wp2_with (with_reducible refine halt_op (some 13) (.load _ _) (fun K hK => ?_))
      refine go_on hK ?_; clear hK
      refine load_arr digestT (l := d) rfl (.tmp 4) rfl rfl (unhid B2) DL.out ?_
      go_wp2_with fail
      go_loopw [14] (fun v14 wq => ∃ j : Nat, j ≤ 32 ∧ v14 = .int .i64 j ∧ Hid (Blk wq w.heap.size 23 (cellsOf .u8 (upTo o1 d j))) ∧ Hid (Below w.heap.size w wq)) (fun v14 _ => 32 - (intOf v14).toNat)
      case atStart => exact ⟨0, Nat.zero_le _, rfl, by simpa [upTo] using HB3, HE3⟩
      case round =>
        obtain ⟨j, hj, rfl, HC, HF⟩ := hrel
        by_cases hj2 : j < 32
        · obtain ⟨y, hy⟩ : ∃ y, d[j]? = some y := ⟨_, List.getElem?_eq_getElem (by rw [DL.out]; exact hj2)⟩
          obtain ⟨x, hx⟩ : ∃ x, o1[j]? = some x := ⟨_, List.getElem?_eq_getElem (by rw [ML.out]; exact hj2)⟩
          have hxy := u8_xi (M8.out x (List.mem_of_getElem? hx)) (D8.out y (List.mem_of_getElem? hy))
          have hc : wr.cell? ⟨w.heap.size, j, none⟩ = some (.int .u8 x) := by rw [(unhid HC).cell, cellsOf_get, upTo_at ML.out DL.out hj2, hx]; rfl
          have HY := hid hy
          have hset := hid (upTo_set ML.out DL.out hj2 hx hy)
          clear hx hy
          have j1 : (0 : Int) ≤ (j : Int) := by omega
          have j2 : (j : Int) < 32 := by omega
          go_wp2_with (with_reducible refine halt_op (some 17) (.index _ _ _) (fun K hK => ?_))
          refine go_on hK ?_; clear hK
          refine index_int digestT (l := d) (j := j) rfl (.tmp 13) (.tmp 14) rfl rfl rfl hj2 HY.out ?_
          go_wp2_with (with_reducible refine halt_op none (.store _ (.tmp 23) _) (fun K hK => ?_))
          refine go_on hK ?_; clear hK
          refine store_cell (k := .u8) byteSize rfl (.tmp 23) (.tmp 22) rfl rfl rfl (unhid HC) (by rw [cellsOf_size, upTo_len ML.out DL.out hj]; exact hj2) ?_
          intro w4 b4 g4
          rw [cellsOf_set, hset.out] at b4
          have B4 := hid b4; have E4 := hid ((unhid HF).grown g4 (unhid HF).size (fun q hq => by injection hq with hq; omega)); clear b4 g4
          go_wp2_with fail
          go_roundw
          case rel => exact ⟨j + 1, by omega, by go_num, B4, E4⟩
          case measure => simp [intOf]; omega
        · have hj32 : j = 32 := by omega
          subst hj32
          have HC2 : Hid (Blk wr w.heap.size 23 (cellsOf .u8 (mixL (L.take (k + 1))))) := by
            have := HC.out
            rw [upTo_all ML.out DL.out, ← mk1.out] at this
            exact this
          clear HC
          go_wp2_with fail
          go_roundw
          case rel => exact ⟨k + 1, by omega, by go_num, HC2, HF⟩
          case measure => simp [intOf]; omega
    · have hkn : k = n := by omega
      subst hkn
      rw [← HL.out, List.take_length] at HB mo
      go_wp2_with (with_reducible refine halt_op (some 26) (.load _ _) (fun K hK => ?_))
      refine go_on hK ?_; clear hK
      have ml : (mixL L).length = 32 := mo.1
      refine load_arr digestT (l := mixL L) rfl (.tmp 2) rfl rfl (unhid HB) ml ?_
      refine store_arr digestT (l := mixL L) rfl (.tmp 2) (.tmp 26) rfl rfl rfl ml (unhid HB) (by rw [cellsOf_size]; exact ml) ?_
      intro w6 b6 g6
      have B6 := hid b6; have E6 := hid ((unhid HE).grown g6 (unhid HE).size (fun q hq => by injection hq with hq; omega)); clear b6 g6
      go_wp2
      exact bodyPost_ret (results_cell_row rfl _ _ w.heap.size _ (cellsOf .u8 (mixL L)) (0, 0) _ rfl (unhid B6) digestT.under rfl (by rw [cellsOf_size, ml]; exact digestT.size)) rfl ⟨rfl, unhid E6⟩
end Go.Proofs.YtlaoijnlemgdfaaDoor
