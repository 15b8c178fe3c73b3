/- The walks of wallet.Seed and wallet.Lock at the key 0. -/
import Derived.Test.YtibhhbjbfdbmdaaDoorKeyPubW
import Derived.Test.YtibhhbjbfdbmdaaDoorSizeOfW
import Derived.Test.YtibhhbjbfdbmdaaDoorCoinW
import Derived.Test.YtibhhbjbfdbmdaaDoorHand
import Derived.Deep.RegionHeld3
namespace Go.Proofs.YtibhhbjbfdbmdaaDoor
set_option linter.unusedVariables false
set_option linter.unusedSimpArgs false
open Go.RowKit Go.Mny
def seedN (seed : List Nat) : List Nat := macN seed [24, 0]
theorem write_zero (w : World) : Calls Tryd.prog 31 #[.int .i64 0] w fun e w' => ∃ A c, e = .returned (.tuple #[.slice A 1 c, .nilIface]) ∧ Row w' w'.heap.size 1 A 1 (bytes [0]) ∧ Below w.heap.size w w' := by
  refine (SzW.write_ok 0 w (by decide) (by decide)).mono ?_
  rintro e w' ⟨A, c, rfl, ho, hb⟩
  exact ⟨A, c, rfl, Row.of_own ho, hb⟩
set_option maxHeartbeats 4000000 in
set_option maxRecDepth 100000 in
theorem wseed_any (seed : List Nat) (w : World) (hs : seed.length = 32) (s8 : B8 seed) (hL : Laid w) (h0 : 1 < w.heap.size) :
    Calls Tryd.prog 15 #[.agg (cellsOf .u8 (up seed)), .int .i64 0] w fun e w' => e = .returned (.agg (cellsOf .u8 (up (seedN seed)))) ∧ Below w.heap.size w w' := by
  have HL := hid hL; have HS := hid hs; have S8 := hid s8
  clear hL hs s8
  go_enter Tryd.func15, Tryd.ntmps15
  go_wp2_with (with_reducible refine halt_op (some 2) (.box _ _) (fun K hK => ?_))
  refine go_on hK ?_; clear hK
  refine box_arr (k := .u8) (l := up seed) rfl (.tmp 0) rfl rfl ?_
  rintro g2 w1 hg2 s1 b1 e1
  go_wp2_with (with_reducible refine halt_op (some 4) (.alloc _) (fun K hK => ?_))
  refine go_on hK ?_; clear hK
  refine alloc_arr digT rfl rfl ?_
  rintro g4 w2 hg4 s2 b2 e2
  have h24 : g2 < g4 := by omega
  have hw2 : w.heap.size ≤ g2 := by omega
  have hg42 : g4 < w2.heap.size := by omega
  have hg22 : g2 < w2.heap.size := by omega
  have hwg4 : w.heap.size ≤ g4 := by omega
  have B2 := hid b2
  have C2 := hid (b1.below e2 h24)
  have E2 := hid ((e1.trans (e2.mono (by omega))).mono hw2)
  clear b1 b2 e1 e2 hg2 hg4 s1 s2
  go_wp2_with fail
  refine (write_zero _).mono ?_
  rintro e w3 ⟨A, c, rfl, r3, hb3⟩
  have R3 := hid r3
  have B3 := hid ((unhid B2).below hb3 hg42)
  have C3 := hid ((unhid C2).below hb3 hg22)
  have E3 := hid ((unhid E2).trans (hb3.mono (unhid E2).size))
  have hg43 : g4 < w3.heap.size := by have := hb3.size; omega
  have hg23 : g2 < w3.heap.size := by have := hb3.size; omega
  clear r3 hb3 B2 C2
  go_wp2_with fail
  refine wp_region_held_drew (S := fun w' => Below g4 w3 w') (by kernel_rfl) ((Below.refl _ _).drew) (fun hS => ?_)
  refine wpAnyH_take (i := 0) (oi := { dst := some 15, op := Op.slice 23 (Operand.tmp 2) none none none, type := 37, pos := "wallet.go:25", after := #[], guard := none }) (v := .slice (some ⟨g2, 0, none⟩) 32 32) rfl (by kernel_rfl) (by kernel_rfl) (by kernel_rfl) (fun _ _ _ h => h) (yields_of rfl (fun w => by go_simp)) hS ?_
  try simp only [Act.put, List.setIfInBounds_toArray, List.set_cons_zero, List.set_cons_succ]
  refine wpAnyH_take (i := 2) (oi := { dst := some 17, op := Op.move (Operand.tmp 5), type := 37, pos := "wallet.go:25", after := #[], guard := none }) (v := .slice A 1 c) rfl (by kernel_rfl) (by kernel_rfl) (by kernel_rfl) (fun _ _ _ h => h) (yields_of rfl (fun w => by go_simp)) hS ?_
  try simp only [Act.put, List.setIfInBounds_toArray, List.set_cons_zero, List.set_cons_succ]
  have hbd : Below w3.heap.size w3 w3.drew := (Below.refl _ _).drew
  obtain ⟨w3d, hw3d⟩ : ∃ W, W = w3.drew := ⟨_, rfl⟩
  rw [← hw3d] at hbd
  rw [← hw3d]
  clear hw3d hS
  refine wpAnyH_ready (rs := [1]) (by kernel_rfl) (by simp) ?_
  refine AllReadyH.cons (o := _) rfl (fun K hK => ?_) AllReadyH.nil
  go_simp
  have hb4 : Below w3.heap.size w3 (w3d.alloc (.cells #[.int .u8 24] 5)) := hbd.alloc hbd.size _
  have rB := Row.lit w3d 5 #[.int .u8 24] 1 (bytes [24]) rfl rfl
  obtain ⟨gB, hgB⟩ : ∃ gB, gB = w3d.heap.size := ⟨_, rfl⟩
  obtain ⟨w4, hw4⟩ : ∃ W, W = w3d.alloc (.cells #[.int .u8 24] 5) := ⟨_, rfl⟩
  rw [← hw4] at rB hb4
  rw [← hgB] at rB
  rw [← hw4, ← hgB]
  clear hw4 hgB
  refine hK.out _ _ (hb4.mono (Nat.le_of_lt hg43)) (fun _ => ?_)
  refine wpAnyH_ready (rs := [3]) (by kernel_rfl) (by simp) ?_
  refine AllReadyH.cons (o := _) rfl (fun K hK => ?_) AllReadyH.nil
  refine app_full_wp bytesE (.tmp 16) (.tmp 17) rfl (A := some ⟨gB, 0, none⟩) (n := 1) rfl rB (bytes_one _) (A' := A) (m := 1) (c' := c) rfl ((unhid R3).below hb4) (bytes_one _) (by decide) (by decide) (by decide) ?_
  intro ga ca w5 o5 b5
  have hb5 := hb4.trans (b5.mono hb4.size)
  have R5 : Hid (Row w5 w5.heap.size 1 (some ⟨ga, 0, none⟩) 2 (bytes [24, 0])) := Row.of_own o5
  clear o5 b5 rB
  refine hK.out _ _ (hb5.mono (Nat.le_of_lt hg43)) (fun _ => ?_)
  refine wpAnyH_ready (rs := [4]) (by kernel_rfl) (by simp) ?_
  refine AllReadyH.cons (o := _) rfl (fun K hK => ?_) AllReadyH.nil
  go_simp
  have RS : Row w5 w5.heap.size 1 (some ⟨g2, 0, none⟩) 32 (bytes seed) := by
    have h1 := Row.of_blk ((unhid C3).below hb5 hg23)
    rw [up_len, HS.out] at h1
    exact h1
  refine (mac_any seed [24, 0] _ _ 32 32 2 ca w5.heap.size w5 RS (unhid R5) (Nat.le_refl _) (by decide) (by decide) S8.out (by unfold B8; decide) ((unhid HL).below ((unhid E3).trans (hb5.mono (unhid E3).size)) h0) (by have := (unhid E3).size; have := hb5.size; omega)).mono ?_
  rintro e w6 ⟨rfl, hq6⟩
  have hb6 := hb5.trans (hq6.mono hb5.size)
  clear hq6 RS
  go_wp2_with fail
  refine hK.out _ _ (hb6.mono (Nat.le_of_lt hg43)) (fun _ => ?_)
  refine wpAnyH_ready (rs := [5]) (by kernel_rfl) (by simp) ?_
  refine AllReadyH.cons (o := _) rfl (fun K hK => ?_) AllReadyH.nil
  refine store_arr_wp digT (l := up (seedN seed)) (.tmp 4) (.tmp 19) rfl rfl rfl (by rw [up_len]; exact macN_len _ _) ((unhid B3).below hb6 hg43) (by simp [cellsOf]) ?_
  intro w8 b8 g8
  have B8 := hid b8
  have h8 : Below g4 w3 w8 := (hb6.mono (Nat.le_of_lt hg43)).grown g8 (by have := hb6.size; omega) (fun q hq => by injection hq with hq; omega)
  have E8 := hid ((unhid E3).trans (h8.mono hwg4))
  clear b8 g8
  refine hK.out _ _ h8 (fun _ => ?_)
  refine wpAnyH_done (by kernel_rfl) ?_ _
  go_wp2_with fail
  exact bodyPost_ret (results_cell_row rfl _ _ g4 _ (cellsOf .u8 (up (seedN seed))) (0, 0) _ rfl (unhid B8) digT.under rfl (by rw [cellsOf_size, up_len, show (seedN seed).length = 32 from macN_len _ _]; exact digT.size)) rfl ⟨rfl, unhid E8⟩
/-- the public key of a wallet's first lock -/
def wpub (seed : List Nat) : List Nat := pubN (seedN seed)
def lockOps (g : Nat) (seed : List Nat) : List OpC := [⟨1, 0, some ⟨g, 0, none⟩, 32, 32, wpub seed⟩, ⟨8, 0, none, 0, 0, []⟩]
def LockP (seed : List Nat) (w : World) (e : Ending) (w' : World) : Prop := ∃ gl g, e = .returned (.slice (some ⟨gl, 0, none⟩) 2 2) ∧ Ops w' w'.heap.size (some ⟨gl, 0, none⟩) 2 (lockOps g seed) ∧ Below w.heap.size w w'
theorem opsE : Elt Tryd.prog 28 54 3 40 := Elt.of Tryd.underlying28 (.agg #[.int .i64 0, .int .i64 0, .slice none 0 0]) (by kernel_rfl) rfl (by decide)
theorem run_buildOps (o1 o2 : OpC) (w : World) : (Instr.buildSlice 28 2 #[(0, .agg (oc o1).toArray), (1, .agg (oc o2).toArray)]).run Tryd.prog w = .ok (.slice (some ⟨w.heap.size, 0, none⟩) 2 2) (w.alloc (.cells (ocs [o1, o2]).toArray 54)) := by
  unfold oc
  go_simp
  rfl
theorem ops_of_blk {w : World} {g : Nat} {l : List OpC} {n : Nat} (h : Blk w g 54 (ocs l).toArray) (hn : l.length = n) (he : ∀ o ∈ l, OpOk w w.heap.size o) : Ops w w.heap.size (some ⟨g, 0, none⟩) n l := by
  refine ⟨⟨?_, fun _ => ⟨g, 0, rfl, h.lt', fun j hj => ?_⟩⟩, hn, he⟩
  · unfold ocs
    rw [flat_len (s := 3) _ (fun x hx => by obtain ⟨o, _, rfl⟩ := List.mem_map.1 hx; rfl), List.length_map, hn]
  · rw [Nat.zero_add, h.cell]; simp
set_option maxHeartbeats 4000000 in
set_option maxRecDepth 100000 in
theorem wlock_any (seed : List Nat) (w : World) (hs : seed.length = 32) (s8 : B8 seed) (hL : Laid w) (h0 : 1 < w.heap.size) :
    Calls Tryd.prog 5 #[.agg (cellsOf .u8 (up seed)), .int .i64 0] w (LockP seed w) := by
  have HL := hid hL; have HS := hid hs; have S8 := hid s8
  have SL := hid (show (up seed).length = 32 by rw [up_len]; exact hs)
  clear hL hs s8
  go_enter Tryd.func5, Tryd.ntmps5
  go_wp2_with (with_reducible refine halt_op (some 2) (.box _ _) (fun K hK => ?_))
  refine go_on hK ?_; clear hK
  refine box_arr (k := .u8) (l := up seed) rfl (.tmp 0) rfl rfl ?_
  rintro g2 w1 hg2 s1 b1 e1
  have B1 := hid b1; have E1 := hid (e1.mono (show w.heap.size ≤ g2 by omega))
  clear b1 e1 hg2 s1
  go_wp2_with (with_reducible refine halt_op (some 6) (.load _ _) (fun K hK => ?_))
  refine go_on hK ?_; clear hK
  refine load_arr digT rfl (.tmp 2) rfl rfl (unhid B1) SL.out ?_
  go_wp2_with fail
  refine (wseed_any seed _ HS.out S8.out ((unhid HL).below (unhid E1) h0) (by have := (unhid E1).size; omega)).mono ?_
  rintro e w2 ⟨rfl, hb2⟩
  have E2 := hid ((unhid E1).trans (hb2.mono (unhid E1).size))
  clear hb2 B1
  go_wp2_with fail
  refine (public_any (seedN seed) _ (macN_len _ _) (macN_B8 _ _) ((unhid HL).below (unhid E2) h0) (by have := (unhid E2).size; omega)).mono ?_
  rintro e w3 ⟨rfl, hb3⟩
  have E3 := hid ((unhid E2).trans (hb3.mono (unhid E2).size))
  clear hb3
  go_wp2_with (with_reducible refine halt_op (some 5) (.alloc _) (fun K hK => ?_))
  refine go_on hK ?_; clear hK
  refine alloc_arr digT rfl rfl ?_
  rintro g5 w4 hg5 s4 b4 e4
  refine store_arr digT (l := up (wpub seed)) rfl (.tmp 5) (.tmp 9) rfl rfl rfl (sum_len_u _) b4 (by simp [cellsOf]) ?_
  intro w5 b5 gg5
  have hE5 : Below w3.heap.size w3 w5 := (e4.grown gg5 (by omega) (fun q hq => by injection hq with hq; omega)).mono (by omega)
  have B5 := hid b5
  have h55 : g5 < w5.heap.size := b5.lt'
  have E5 := hid ((unhid E3).trans (hE5.mono (unhid E3).size))
  clear b4 e4 hg5 s4 b5 gg5 hE5
  have BO := hid (run_buildOps ⟨1, 0, some ⟨g5, 0, none⟩, 32, 32, wpub seed⟩ ⟨8, 0, none, 0, 0, []⟩ w5)
  go_wp2_with (with_reducible refine halt_op (some 13) (.buildSlice _ _ _) (fun K hK => ?_))
  refine go_on hK ?_; clear hK
  refine op_step rfl fun K hK => ?_
  unfold Oper.wp execOp
  simp only [List.map_toArray, List.map_cons, List.map_nil, Sem.run_bind, Sem.run_pure]
  erw [BO.out]
  simp only [Result.andThen_ok]
  have hA : Below w5.heap.size w5 (w5.alloc (.cells (ocs [⟨1, 0, some ⟨g5, 0, none⟩, 32, 32, wpub seed⟩, ⟨8, 0, none, 0, 0, []⟩]).toArray 54)) := (Below.refl _ _).alloc (Nat.le_refl _) _
  obtain ⟨w6, hw6⟩ : ∃ W, W = w5.alloc (.cells (ocs [⟨1, 0, some ⟨g5, 0, none⟩, 32, 32, wpub seed⟩, ⟨8, 0, none, 0, 0, []⟩]).toArray 54) := ⟨_, rfl⟩
  have b6 := Blk.new w5 54 (ocs [⟨1, 0, some ⟨g5, 0, none⟩, 32, 32, wpub seed⟩, ⟨8, 0, none, 0, 0, []⟩]).toArray
  obtain ⟨g6, hg6⟩ : ∃ g, g = w5.heap.size := ⟨_, rfl⟩
  rw [← hw6] at hA b6
  rw [← hg6] at b6
  rw [← hw6, ← hg6]
  clear hw6 hg6
  have OP : Hid (Ops w6 w6.heap.size (some ⟨g6, 0, none⟩) 2 (lockOps g5 seed)) := by
    refine ops_of_blk b6 rfl fun o ho => ?_
    unfold lockOps at ho
    simp only [List.mem_cons, List.not_mem_nil, or_false] at ho
    rcases ho with rfl | rfl
    · refine ⟨show (Lit.int .i64 1).wf = true by decide, show (Lit.int .i64 0).wf = true by decide, Nat.le_refl _, show (32 : Nat) ≤ maxLen by decide, ?_, Sh2.sum_lt _⟩
      have h1 := Row.of_blk ((unhid B5).below hA h55)
      rw [up_len, show (wpub seed).length = 32 from Sh2.sum_len _] at h1
      exact h1
    · exact ⟨by decide, by decide, Nat.le_refl _, by decide, Row.nil _ _ _ _, fun x hx => absurd hx List.not_mem_nil⟩
  have E6 := hid ((unhid E5).trans (hA.mono (unhid E5).size))
  clear hA b6 BO
  refine hK _ _ ?_
  go_wp2_with fail
  go_ret
  exact ⟨g6, g5, rfl, unhid OP, unhid E6⟩
end Go.Proofs.YtibhhbjbfdbmdaaDoor
