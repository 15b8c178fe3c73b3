/- The walk of the law LotOrders. -/
import Derived.Test.YtlaoijnlemgdfaaDoorLotW
import Derived.Test.YtlaoijnlemgdfaaDoorNats
namespace Go.Proofs.YtlaoijnlemgdfaaDoor
set_option linter.unusedVariables false
open Go.RowKit Go.Mny
def mets (o : List Nat) (n i : Nat) : List Value := (List.range n).map fun v => .bool (decide (v ∈ o.take i))
theorem mets_len (o : List Nat) (n i : Nat) : (mets o n i).length = n := by simp [mets]
theorem mets_zero (o : List Nat) (n : Nat) : mets o n 0 = List.replicate n (.bool false) := by
  refine List.ext_getElem (by simp [mets]) fun i h1 h2 => ?_
  simp [mets]
theorem mets_get {o : List Nat} {n i x : Nat} (hx : x < n) : (mets o n i)[x]? = some (.bool (decide (x ∈ o.take i))) := by
  simp [mets, List.getElem?_map, List.getElem?_range hx]
theorem mets_set {o : List Nat} {n i x : Nat} (ho : o[i]? = some x) (hx : x < n) : (mets o n i).set x (.bool true) = mets o n (i + 1) := by
  refine List.ext_getElem? fun j => ?_
  by_cases hj : j < n
  · by_cases hjx : j = x
    · subst hjx
      rw [List.getElem?_set_self (by rw [mets_len]; exact hj), mets_get hj]
      have : j ∈ o.take (i + 1) := by rw [List.take_add_one, ho]; simp
      simp [this]
    · rw [List.getElem?_set_ne (by omega), mets_get hj, mets_get hj]
      have : j ∈ o.take (i + 1) ↔ j ∈ o.take i := by rw [List.take_add_one, ho]; simp [hjx]
      simp [this]
  · rw [List.getElem?_eq_none (by rw [List.length_set, mets_len]; omega), List.getElem?_eq_none (by rw [mets_len]; omega)]
set_option maxHeartbeats 4000000 in
set_option maxRecDepth 100000 in
theorem lotOrders_walk (l0 : List Int) (a1 : Int) (a2 : Int) (w : World) (q0 : l0.length = 32) (f0 : ∀ z ∈ l0, (Lit.int .u8 z).wf = true) (f1 : (Lit.int .i64 a1).wf = true) (f2 : (Lit.int .i64 a2).wf = true)  (hL : Laid w) (h0 : 1 < w.heap.size) (hH : Hdl w) :
    Calls Tryd.prog 5 #[.agg (l0.map (Value.int .u8)).toArray, .int .i64 a1, .int .i64 a2] w fun e w' => e = .returned (.bool true) ∧ Below w.heap.size w w' := by
  obtain ⟨d, rfl, d8⟩ := nats_of f0
  rw [up_len] at q0
  have v1 := bounds_i64 f1
  have v2 := bounds_i64 f2
  have HL := hid hL; have D8 := hid d8; have HD := hid q0; have HH := hid hH
  clear f0 f1 f2 hL d8 q0 hH
  change Calls _ _ #[.agg (cellsOf .u8 (up d)), _, _] _ _
  go_enter Tryd.func5, Tryd.ntmps5
  go_wp2_with (with_reducible refine halt_op (some 3) (.box _ _) (fun K hK => ?_))
  refine go_on hK ?_; clear hK
  refine box_arr (k := .u8) (l := up d) rfl (.tmp 0) rfl rfl ?_
  rintro g3 w1 hg3 s1 b1 e1
  have B1 := hid b1; have E1 := hid (e1.mono (show w.heap.size ≤ g3 by omega))
  have hz : w.heap.size ≤ g3 := by omega
  have hz1 : g3 < w1.heap.size := by omega
  clear b1 e1 s1 hg3
  go_wp2_with (with_reducible refine halt_op (some 16) (.load _ _) (fun K hK => ?_))
  refine go_on hK ?_; clear hK
  refine load_arr digT rfl (.tmp 3) rfl rfl (unhid B1) (by rw [up_len]; exact HD.out) ?_
  by_cases hr : a1 < 0 ∨ 1000 < a1
  · go_wp2_with fail
    refine (order_no d a1 _ hr).mono ?_
    rintro e w2 ⟨rfl, hb2⟩
    have E2 := hid ((unhid E1).trans (hb2.mono (by omega)))
    have hcase : a1 < 0 ∨ (0 ≤ a1 ∧ 1000 < a1) := by omega
    clear hr hb2
    rcases hcase with h | ⟨h1, h2⟩
    all_goals
      go_wp2_with fail
      refine (error_err 2 2 (by decide) _ ((unhid HH).of_below (unhid E2))).mono ?_
      rintro e w3 ⟨rfl, hb3⟩
      have E3 := hid ((unhid E2).trans (hb3.mono (unhid E2).size))
      clear hb3
      rw [show ((2 : Int) == 2) = true from rfl]
      go_wp2_with fail
      go_ret
      exact ⟨rfl, unhid E3⟩
  obtain ⟨n, rfl⟩ := Int.eq_ofNat_of_zero_le (show 0 ≤ a1 by omega)
  have hn : n ≤ 1000 := by omega
  clear hr v1
  go_wp2_with fail
  refine (order_any d n _ HD.out D8.out hn ((unhid HL).below (unhid E1) h0) (by omega)).mono ?_
  rintro e w2 ⟨A, rfl, r2, hb2⟩
  have B2 := hid ((unhid B1).below hb2 hz1); have E2 := hid ((unhid E1).trans (hb2.mono (by omega))); have R2 := hid r2
  have hz2 : w1.heap.size ≤ w2.heap.size := hb2.size
  have hol : (orderN d n).length = n := by rw [(orderN_perm d n).length_eq, List.length_range]
  have hom : ∀ x ∈ orderN d n, x < n := fun x hx => List.mem_range.1 ((orderN_perm d n).mem_iff.1 hx)
  have hnd : (orderN d n).Nodup := (orderN_perm d n).nodup_iff.2 List.nodup_range
  obtain ⟨o, ho⟩ : ∃ o, orderN d n = o := ⟨_, rfl⟩
  rw [ho] at R2 hol hom hnd
  have OL := hid hol; have OM := hid hom; have ON := hid hnd
  have t1 : (0 : Int) ≤ (n : Int) := by omega
  have t2 : (n : Int) ≤ 1000 := by omega
  clear ho hol hom hnd r2 hb2 B1 E1
  go_wp2_with (with_reducible refine halt_op (some 44) (.makeSlice _ _ _) (fun K hK => ?_))
  refine go_on hK ?_; clear hK
  refine make_full (.bool false) Tryd.underlying39 (b := 1) (by kernel_rfl) rfl rfl (.tmp 43) (.tmp 43) rfl rfl rfl (n := n) (by omega) (by simp [maxLen]; omega) ?_
  intro g10 w3 hg10 o3 e3 hz3'
  rw [← mets_zero o n] at o3
  have O3 := hid o3
  have B3 := hid ((unhid B2).below e3 (by omega)); have R3 := hid ((unhid R2).below e3)
  have E3 := hid ((unhid E2).trans (e3.mono (by omega)))
  have hz3 : w2.heap.size < w3.heap.size := hz3'
  have h3_10 : g3 < g10 := by omega
  have h10 : g10 < w3.heap.size := by omega
  have h10' : w2.heap.size ≤ g10 := by omega
  clear o3 e3 hg10 hz3' B2 E2 R2
  go_wp2_with fail
  go_loopw [11] (fun v11 wr => ∃ i : Nat, i ≤ n ∧ v11 = .int .i64 i ∧ Hid (Own wr w2.heap.size 4 1 (some ⟨g10, 0, none⟩) n n (mets o n i)) ∧ Hid (Kept (fun j => j = g10) w3 wr)) (fun v11 _ => n - (intOf v11).toNat)
  case atStart => exact ⟨0, Nat.zero_le _, rfl, O3, Kept.refl _ _⟩
  case round =>
    obtain ⟨i, hi, rfl, HO, HK⟩ := hrel
    have hzr : w3.heap.size ≤ wr.heap.size := (unhid HK).size
    by_cases hlt : i < n
    · have R4 := hid ((unhid R3).kept (by omega) (unhid HK) (fun g _ h1 h2 => by omega))
      obtain ⟨x, hx⟩ : ∃ x, o[i]? = some x := ⟨_, List.getElem?_eq_getElem (by rw [OL.out]; exact hlt)⟩
      have hxn : x < n := OM.out x (List.mem_of_getElem? hx)
      have hnm : x ∉ o.take i := by
        intro hm
        obtain ⟨j, hj, hjx⟩ := List.getElem_of_mem hm
        rw [List.length_take] at hj
        have e1 : o[j]? = some x := by rw [← hjx, List.getElem_take]; exact List.getElem?_eq_getElem (by omega)
        have := (List.getElem?_inj (by rw [OL.out]; omega) ON.out).1 (e1.trans hx.symm)
        omega
      obtain ⟨g, q, rfl, hg, hc⟩ := (unhid R4).cells (by omega)
      have cx : wr.cell? ⟨g, q + i, none⟩ = some (.int .i64 (x : Int)) := (hc i (by rw [List.length_map, up_len, OL.out]; exact hlt)).trans (by rw [List.getElem?_map, up_get, hx]; rfl)
      have cm : wr.cell? ⟨g10, x, none⟩ = some (.bool false) := by
        rw [((unhid HO).get1 hxn).1, mets_get hxn]; simp [hnm]
      have HX := hid hx
      have i1 : (0 : Int) ≤ (i : Int) := by omega
      have i2 : (i : Int) < (n : Int) := by omega
      have x1 : (0 : Int) ≤ (x : Int) := by omega
      have x2 : (x : Int) < (n : Int) := by omega
      clear hc hx hnm
      go_wp2_with (with_reducible refine halt_op none (.store _ _ _) (fun K hK => ?_))
      refine go_on hK ?_; clear hK
      refine store_own1 (v := .bool true) (by kernel_rfl) rfl (.tmp 77) (.const (.bool true)) rfl (unhid HO) hxn rfl rfl (.inr ⟨_, rfl⟩) ?_
      intro w4 o4 g4
      rw [mets_set HX.out hxn] at o4
      have O4 := hid o4
      have K4 := hid ((unhid HK).trans (Kept.of_grown g4) (fun j _ h => by injection h with h; exact h.symm))
      clear o4 g4 cx cm
      go_wp2_with fail
      go_roundw
      case rel => exact ⟨i + 1, by omega, by go_num, O4, K4⟩
      case measure => simp [intOf]; omega
    · have B5 := hid ((unhid B3).kept (unhid HK) (by omega))
      have E5 : Hid (Below w.heap.size w wr) := hid ((unhid E3).trans ((unhid HK).below (by omega) (fun j hj h => by omega)))
      have b5 := (unhid B5).lt'
      have hzw : w.heap.size ≤ wr.heap.size := by omega
      have hin : i = n := by omega
      subst hin
      obtain ⟨w5, hw5⟩ : ∃ w5 : World, w5 = wr := ⟨_, rfl⟩
      rw [← hw5] at B5 E5 b5 hzw
      rw [← hw5]
      clear hw5 HO HK
      go_wp2_with (with_reducible refine halt_op (some 79) (.load _ _) (fun K hK => ?_))
      refine go_on hK ?_; clear hK
      refine load_arr digT rfl (.tmp 3) rfl rfl (unhid B5) (by rw [up_len]; exact HD.out) ?_
      have ORD2 : ∀ w', Below w5.heap.size w5 w' → Calls Tryd.prog 16 #[.agg (cellsOf .u8 (up d)), .int .i64 ((2 : Nat) : Int)] w' (OrdP d 2 w') := fun w' hb => by
        have e := (unhid E5).trans (hb.mono hzw)
        exact order_any d 2 w' HD.out D8.out (by decide) ((unhid HL).below e h0) (by have := hb.size; omega)
      have ORD := hid ORD2
      clear ORD2
      by_cases hm : 1 ≤ a2 ∧ a2 ≤ 2147483647
      · obtain ⟨m, rfl⟩ := Int.eq_ofNat_of_zero_le (show 0 ≤ a2 by omega)
        have hpl := pickN_lt d m D8.out (by omega)
        go_wp2_with fail
        refine (pick_ok d m _ HD.out D8.out (by omega) (by omega)).mono ?_
        rintro e w6 ⟨rfl, hb6⟩
        obtain ⟨p, hp⟩ : ∃ p, pickN d m = p := ⟨_, rfl⟩
        rw [hp] at hpl
        rw [hp]
        have p1 : (0 : Int) ≤ (p : Int) := by omega
        have p2 : (p : Int) < (m : Int) := by omega
        have B6 := hid ((unhid B5).below hb6 b5); have F6 := hid hb6
        clear hp hb6 hm v2
        go_wp2_with (with_reducible refine halt_op (some 85) (.load _ _) (fun K hK => ?_))
        refine go_on hK ?_; clear hK
        refine load_arr digT rfl (.tmp 3) rfl rfl (unhid B6) (by rw [up_len]; exact HD.out) ?_
        go_wp2_with fail
        refine (unhid ORD _ (unhid F6)).mono ?_
        rintro e w7 ⟨A7, rfl, r7, hb7⟩
        have E7 := hid (((unhid E5).trans ((unhid F6).mono hzw)).trans (hb7.mono (by have := (unhid F6).size; omega)))
        clear r7 hb7
        go_wp2_with fail
        go_ret
        exact ⟨rfl, unhid E7⟩
      · go_wp2_with fail
        refine (pick_no d a2 _ (by omega)).mono ?_
        rintro e w6 ⟨rfl, hb6⟩
        have B6 := hid ((unhid B5).below hb6 b5); have F6 := hid hb6
        clear hb6 hm
        go_wp2_with (with_reducible refine halt_op (some 85) (.load _ _) (fun K hK => ?_))
        refine go_on hK ?_; clear hK
        refine load_arr digT rfl (.tmp 3) rfl rfl (unhid B6) (by rw [up_len]; exact HD.out) ?_
        go_wp2_with fail
        refine (unhid ORD _ (unhid F6)).mono ?_
        rintro e w7 ⟨A7, rfl, r7, hb7⟩
        have E7 := hid (((unhid E5).trans ((unhid F6).mono hzw)).trans (hb7.mono (by have := (unhid F6).size; omega)))
        clear r7 hb7
        go_wp2_with fail
        go_ret
        exact ⟨rfl, unhid E7⟩
end Go.Proofs.YtlaoijnlemgdfaaDoor
