/- The walks of audit.Node and audit.Leaf. -/
import Derived.Test.YtjdffhlbiiefaaaDoorTotW
import Derived.Test.YtjdffhlbiiefaaaDoorConcatW
import Derived.Test.YtjdffhlbiiefaaaDoorMonW
import Derived.Test.YtjdffhlbiiefaaaDoorSizeOfW
import Derived.Deep.RegionHeld3
namespace Go.Proofs.YtjdffhlbiiefaaaDoor
set_option linter.unusedVariables false
open Go.RowKit Go.Mny Aud
/-- a number's bytes -/
def szN (n : Int) : List Nat := (Siz.ofN n).map Int.toNat
theorem szN_up {n : Int} (h : 0 ≤ n) : up (szN n) = Siz.ofN n := by
  have hb := Siz.ofN_bytes n h
  unfold up szN
  rw [List.map_map]
  conv => rhs; rw [← List.map_id (Siz.ofN n)]
  refine List.map_congr_left fun z hz => ?_
  have := hb z hz
  simp; omega
theorem szN_len (n : Int) : (szN n).length = (Siz.ofN n).length := by simp [szN]
theorem szN_le (n : Int) : (szN n).length ≤ 9 := by
  rw [szN_len, Siz.ofN_length]
  rcases Siz.wide_cases n with ⟨_, e⟩ | ⟨_, _, e⟩ | ⟨_, _, e⟩ | ⟨_, e⟩ <;> rw [e] <;> omega
theorem szN_B8 {n : Int} (h : 0 ≤ n) : B8 (szN n) := by
  intro x hx
  obtain ⟨z, hz, rfl⟩ := List.mem_map.1 hx
  have := Siz.ofN_bytes n h z hz
  omega
theorem of_nat (n : Int) (w : World) (h0 : 0 ≤ n) (h1 : n ≤ 1125899906842624) :
    Calls Tryd.prog 14 #[.int .i64 n] w fun e w' => ∃ A c, e = .returned (.slice A (szN n).length c) ∧ Row w' w'.heap.size 1 A (szN n).length (bytes (szN n)) ∧ Below w.heap.size w w' := by
  refine (SzW.of_any n w h0 (by omega)).mono ?_
  rintro e w' ⟨A, c, rfl, ho, hb⟩
  refine ⟨A, c, by rw [szN_len], ?_, hb⟩
  have := Row.of_own ho
  rw [← szN_up h0] at this
  rw [szN_len, ← szN_up h0]
  exact this
theorem add_yes (a b : Int) (w : World) (ha : 0 ≤ a) (hb : 0 ≤ b) (h : a + b ≤ 1125899906842624) :
    Calls Tryd.prog 30 #[.int .i64 a, .int .i64 b] w fun e w' => e = .returned (.tuple #[.int .i64 (a + b), .nilIface]) ∧ Below w.heap.size w w' := by
  have hg := Mon.sumGo_good [a, b] 0 (by omega) (by simp [ha, hb]) (by simp [Mon.tot, Mon.big]; omega)
  have ht : (0 : Int) + Mon.tot [a, b] = a + b := by simp [Mon.tot]
  rw [ht] at hg
  refine (add_any a b w).mono ?_
  rintro e w' ⟨rfl, hb⟩
  exact ⟨by rw [hg]; rfl, hb⟩
/-- what a node's digest is of -/
def ndB (l r : Tot) : List Nat := 26 :: (szN l.s ++ (l.d ++ (szN r.s ++ r.d)))
def ndT (l r : Tot) : Tot := ⟨l.s + r.s, Sh2.sum (ndB l r)⟩
def lfB (name : List Nat) (n : Int) : List Nat := 25 :: (name ++ szN n)
def lfT (name : List Nat) (n : Int) : Tot := ⟨n, Sh2.sum (lfB name n)⟩
theorem ndB_B8 {l r : Tot} (hl : B8 l.d) (hr : B8 r.d) (h0 : 0 ≤ l.s) (h1 : 0 ≤ r.s) : B8 (ndB l r) := by
  intro x hx
  rcases List.mem_cons.1 hx with rfl | hx
  · decide
  · exact ((szN_B8 h0).append (hl.append ((szN_B8 h1).append hr))) x hx
theorem lfB_B8 {name : List Nat} {n : Int} (hl : B8 name) (h0 : 0 ≤ n) : B8 (lfB name n) := by
  intro x hx
  rcases List.mem_cons.1 hx with rfl | hx
  · decide
  · exact (hl.append (szN_B8 h0)) x hx
theorem nodeLaw : Aud.Node ndT ⟨0, Sh2.sum []⟩ := ⟨fun _ _ => rfl, fun l r hl hr => ⟨by show 0 ≤ l.s + r.s; omega, Sh2.sum_len _, Sh2.sum_lt _⟩, rfl, ⟨by decide, Sh2.sum_len _, Sh2.sum_lt _⟩⟩
theorem Row.parts {w : World} {f : Nat} {cur : Array Value} {n : Nat} {ps : List Part} (hc : cur.toList = ps.map Part.val) (hn : ps.length = n) (h : ∀ p ∈ ps, Row w w.heap.size 1 p.A p.n (bytes p.l)) :
    Parts (w.alloc (.cells cur f)) (w.heap.size + 1) (some ⟨w.heap.size, 0, none⟩) ps := by
  subst hn
  refine ⟨Row.lit_at w f cur ps.length _ _ rfl hc (by simp), ?_⟩
  intro p hp
  exact ((h p hp).alloc (Nat.le_refl _) _).more (by omega)
theorem parts5 {W : World} (f : Nat) {B1 B2 B3 B4 B5 : Option Addr} {l1 l2 l3 l4 l5 : List Nat} {n1 n2 n3 n4 n5 : Nat} (h1 : Row W W.heap.size 1 B1 n1 (bytes l1)) (h2 : Row W W.heap.size 1 B2 n2 (bytes l2)) (h3 : Row W W.heap.size 1 B3 n3 (bytes l3)) (h4 : Row W W.heap.size 1 B4 n4 (bytes l4)) (h5 : Row W W.heap.size 1 B5 n5 (bytes l5)) (c1 c2 c3 c4 c5 : Nat) :
    Parts (W.alloc (.cells #[.slice B1 n1 c1, .slice B2 n2 c2, .slice B3 n3 c3, .slice B4 n4 c4, .slice B5 n5 c5] f)) (W.heap.size + 1) (some ⟨W.heap.size, 0, none⟩) [⟨B1, n1, c1, l1⟩, ⟨B2, n2, c2, l2⟩, ⟨B3, n3, c3, l3⟩, ⟨B4, n4, c4, l4⟩, ⟨B5, n5, c5, l5⟩] := by
  refine Row.parts rfl rfl fun p hp => ?_
  simp only [List.mem_cons, List.not_mem_nil, or_false] at hp
  rcases hp with rfl | rfl | rfl | rfl | rfl <;> assumption
theorem parts3' {W : World} (f : Nat) {B1 B2 B3 : Option Addr} {l1 l2 l3 : List Nat} {n1 n2 n3 : Nat} (h1 : Row W W.heap.size 1 B1 n1 (bytes l1)) (h2 : Row W W.heap.size 1 B2 n2 (bytes l2)) (h3 : Row W W.heap.size 1 B3 n3 (bytes l3)) (c1 c2 c3 : Nat) :
    Parts (W.alloc (.cells #[.slice B1 n1 c1, .slice B2 n2 c2, .slice B3 n3 c3] f)) (W.heap.size + 1) (some ⟨W.heap.size, 0, none⟩) [⟨B1, n1, c1, l1⟩, ⟨B2, n2, c2, l2⟩, ⟨B3, n3, c3, l3⟩] := by
  refine Row.parts rfl rfl fun p hp => ?_
  simp only [List.mem_cons, List.not_mem_nil, or_false] at hp
  rcases hp with rfl | rfl | rfl <;> assumption
theorem Blk.dig {w : World} {g e : Nat} {t : Tot} (h : Blk w g e (tc t).toArray) (hd : t.d.length = 32) : Row w w.heap.size 1 (some ⟨g, 1, none⟩) 32 (bytes t.d) := by
  refine ⟨by rw [bytes_len, hd], fun _ => ⟨g, 1, rfl, h.lt', fun j hj => ?_⟩⟩
  rw [h.cell, Nat.add_comm 1 j]
  simp [tc]
theorem Blk.amt {w : World} {g e : Nat} {t : Tot} (h : Blk w g e (tc t).toArray) : w.cell? ⟨g, 0, none⟩ = some (.int .i64 t.s) := by
  rw [h.cell]; rfl
set_option maxHeartbeats 4000000 in
set_option maxRecDepth 100000 in
theorem node_any (l r : Tot) (w : World) (hl : Ok l) (hr : Ok r) (hs : l.s + r.s ≤ 1125899906842624) (hL : Laid w) (h0 : 0 < w.heap.size) :
    Calls Tryd.prog 19 #[totV l, totV r] w fun e w' => e = .returned (.tuple #[totV (ndT l r), .nilIface]) ∧ Below w.heap.size w w' := by
  obtain ⟨hl0, dl, l8⟩ := hl
  obtain ⟨hr0, dr, r8⟩ := hr
  have hl1 : l.s ≤ 1125899906842624 := by omega
  have hr1 : r.s ≤ 1125899906842624 := by omega
  have DL := hid dl; have DR := hid dr; have L8 := hid (show B8 l.d from l8); have R8' := hid (show B8 r.d from r8); have HL := hid hL
  clear dl dr l8 r8 hL
  unfold totV
  go_enter Tryd.func19, Tryd.ntmps19
  go_wp2_with (with_reducible refine halt_op (some 2) (.box _ _) (fun K hK => ?_))
  refine go_on hK ?_; clear hK
  refine box_row (cs := (tc l).toArray) rfl (.tmp 0) rfl rfl ?_
  rintro g2 w1 hg2 s1 b1 e1
  go_wp2_with (with_reducible refine halt_op (some 3) (.box _ _) (fun K hK => ?_))
  refine go_on hK ?_; clear hK
  refine box_row (cs := (tc r).toArray) rfl (.tmp 1) rfl rfl ?_
  rintro g3 w2 hg3 s2 b2 e2
  go_wp2_with (with_reducible refine halt_op (some 4) (.alloc _) (fun K hK => ?_))
  refine go_on hK ?_; clear hK
  refine alloc_row _ totZ rfl rfl ?_
  rintro g4 w3 hg4 s3 b3 e3
  have hw2 : w.heap.size ≤ g2 := by omega
  have h23 : g2 < g3 := by omega
  have h34 : g3 < g4 := by omega
  have hg43 : g4 < w3.heap.size := by omega
  have hwg : w.heap.size ≤ g4 := by omega
  have B1 := hid ((b1.below e2 h23).below e3 (by omega)); have B2 := hid (b2.below e3 h34); have B3 := hid b3
  have E3 := hid ((e1.trans ((e2.trans (e3.mono (by omega))).mono (by omega))).mono hw2)
  have c2 := Blk.amt (unhid B1)
  have c3 := Blk.amt (unhid B2)
  have HWG := hid hwg
  clear b1 b2 b3 e1 e2 e3 hg2 hg3 hg4 s1 s2 s3 hwg hw2
  go_wp2_with fail
  refine (add_yes l.s r.s _ hl0 hr0 hs).mono ?_
  rintro e w4 ⟨rfl, hq4⟩
  have B1 := hid ((unhid B1).below hq4 (by omega)); have B2 := hid ((unhid B2).below hq4 (by omega)); have B4 := hid ((unhid B3).below hq4 hg43)
  have E4 := hid ((unhid E3).trans (hq4.mono (unhid E3).size))
  have hg4 : g4 < w4.heap.size := by have := hq4.size; omega
  have hg2' : g2 < w4.heap.size := by omega
  have hg3' : g3 < w4.heap.size := by omega
  have CL : Hid (∀ W, Below w4.heap.size w4 W → W.cell? ⟨g2, 0, none⟩ = some (.int .i64 l.s)) := fun W h => Blk.amt ((unhid B1).below h hg2')
  have CR : Hid (∀ W, Below w4.heap.size w4 W → W.cell? ⟨g3, 0, none⟩ = some (.int .i64 r.s)) := fun W h => Blk.amt ((unhid B2).below h hg3')
  have RL : Hid (Hid (∀ W, Below w4.heap.size w4 W → Row W W.heap.size 1 (some ⟨g2, 1, none⟩) 32 (bytes l.d))) := fun W h => Blk.dig ((unhid B1).below h hg2') DL.out
  have RR : Hid (Hid (∀ W, Below w4.heap.size w4 W → Row W W.heap.size 1 (some ⟨g3, 1, none⟩) 32 (bytes r.d))) := fun W h => Blk.dig ((unhid B2).below h hg3') DR.out
  clear c2 c3 hq4 E3 B3 h23 h34 hg43 B1 B2
  go_wp2_with fail
  refine wp_region_held_drew (S := fun w' => Below w4.heap.size w4 w') (by kernel_rfl) ((Below.refl _ _).drew) (fun hS => ?_)
  refine wpAnyH_take (i := 1) (v := .pointer (some ⟨g2, 0, none⟩)) rfl (by kernel_rfl) (by kernel_rfl) (by kernel_rfl) (fun _ _ _ h => h) (yields_of rfl (fun w => by go_simp)) hS ?_
  simp only [Act.put, List.setIfInBounds_toArray]
  refine wpAnyH_take (i := 2) (v := .int .i64 l.s) rfl (by kernel_rfl) (by kernel_rfl) (by kernel_rfl) (fun _ _ _ h => h) (.inl ⟨rfl, fun w h => by have e := CL.out w h; go_simp⟩) hS ?_
  simp only [Act.put]
  refine wpAnyH_take (i := 4) (v := .pointer (some ⟨g2, 1, none⟩)) rfl (by kernel_rfl) (by kernel_rfl) (by kernel_rfl) (fun _ _ _ h => h) (yields_of rfl (fun w => by go_simp)) hS ?_
  simp only [Act.put]
  refine wpAnyH_take (i := 5) (v := .slice (some ⟨g2, 1, none⟩) 32 32) rfl (by kernel_rfl) (by kernel_rfl) (by kernel_rfl) (fun _ _ _ h => h) (yields_of rfl (fun w => by go_simp)) hS ?_
  simp only [Act.put]
  refine wpAnyH_take (i := 6) (v := .pointer (some ⟨g3, 0, none⟩)) rfl (by kernel_rfl) (by kernel_rfl) (by kernel_rfl) (fun _ _ _ h => h) (yields_of rfl (fun w => by go_simp)) hS ?_
  simp only [Act.put]
  refine wpAnyH_take (i := 7) (v := .int .i64 r.s) rfl (by kernel_rfl) (by kernel_rfl) (by kernel_rfl) (fun _ _ _ h => h) (.inl ⟨rfl, fun w h => by have e := CR.out w h; go_simp⟩) hS ?_
  simp only [Act.put]
  refine wpAnyH_take (i := 9) (v := .pointer (some ⟨g3, 1, none⟩)) rfl (by kernel_rfl) (by kernel_rfl) (by kernel_rfl) (fun _ _ _ h => h) (yields_of rfl (fun w => by go_simp)) hS ?_
  simp only [Act.put]
  refine wpAnyH_take (i := 10) (v := .slice (some ⟨g3, 1, none⟩) 32 32) rfl (by kernel_rfl) (by kernel_rfl) (by kernel_rfl) (fun _ _ _ h => h) (yields_of rfl (fun w => by go_simp)) hS ?_
  simp only [Act.put]
  have hbd : Below w4.heap.size w4 w4.drew := (Below.refl _ _).drew
  obtain ⟨w4d, hw4d⟩ : ∃ W, W = w4.drew := ⟨_, rfl⟩
  rw [← hw4d] at hbd
  rw [← hw4d]
  clear hw4d hS
  refine wpAnyH_ready (rs := [0, 3]) (by kernel_rfl) (by simp) ?_
  refine AllReadyH.cons (o := _) rfl (fun K hK => ?_) (AllReadyH.cons (o := _) rfl (fun K hK => ?_) AllReadyH.nil)
  · go_simp
    have hb5 : Below w4.heap.size w4 (w4d.alloc (.cells #[.int .u8 26] 5)) := hbd.alloc hbd.size _
    have rB := Row.lit w4d 5 #[.int .u8 26] 1 (bytes [26]) rfl rfl
    obtain ⟨gB, hgB⟩ : ∃ gB, gB = w4d.heap.size := ⟨_, rfl⟩
    have hsB : (w4d.alloc (.cells #[.int .u8 26] 5)).heap.size = gB + 1 := by rw [hgB]; simp
    rw [← hgB] at rB
    rw [← hgB]
    skip
    obtain ⟨w5, hw5⟩ : ∃ W, W = w4d.alloc (.cells #[.int .u8 26] 5) := ⟨_, rfl⟩
    rw [← hw5] at rB hb5 hsB
    rw [← hw5]
    have RB := hid (rB.more (show gB + 1 ≤ w5.heap.size by omega))
    clear hw5 rB hsB hgB
    refine hK.out _ _ hb5 (fun _ => ?_)
    refine wpAnyH_ready (rs := [3]) (by kernel_rfl) (by simp) ?_
    refine AllReadyH.cons (o := _) rfl (fun K hK => ?_) AllReadyH.nil
    go_simp
    refine (of_nat l.s w5 hl0 hl1).mono ?_
    rintro e w6 ⟨AF, cF, rfl, rF, hq6⟩
    have hb6 := hb5.trans (hq6.mono hb5.size)
    have RF := hid rF
    have RB := hid (((unhid RB).below hq6).more hq6.size)
    clear rF
    go_wp2_with fail
    refine hK.out _ _ hb6 (fun _ => ?_)
    refine wpAnyH_ready (rs := [8]) (by kernel_rfl) (by simp) ?_
    refine AllReadyH.cons (o := _) rfl (fun K hK => ?_) AllReadyH.nil
    go_simp
    refine (of_nat r.s w6 hr0 hr1).mono ?_
    rintro e w7 ⟨AS, cS, rfl, rS, hq7⟩
    have hb7 := hb6.trans (hq7.mono hb6.size)
    have RS := hid rS
    have RB := hid (((unhid RB).below hq7).more hq7.size)
    have RF := hid (((unhid RF).below hq7).more hq7.size)
    clear rS
    go_wp2_with fail
    refine hK.out _ _ hb7 (fun _ => ?_)
    refine wpAnyH_ready (rs := [11]) (by kernel_rfl) (by simp) ?_
    refine AllReadyH.cons (o := _) rfl (fun K hK => ?_) AllReadyH.nil
    go_simp
    have P5 := hid (parts5 (W := w7) 49 (unhid RB) (unhid RF) ((unhid RL).out w7 hb7) (unhid RS) ((unhid RR).out w7 hb7) 1 cF 32 cS 32)
    have hb7 := hb7.alloc hb7.size (.cells #[.slice (some ⟨gB, 0, none⟩) 1 1, .slice AF (szN l.s).length cF, .slice (some ⟨g2, 1, none⟩) 32 32, .slice AS (szN r.s).length cS, .slice (some ⟨g3, 1, none⟩) 32 32] 49)
    refine hK.out _ _ hb7 (fun _ => ?_)
    refine wpAnyH_ready (rs := [12]) (by kernel_rfl) (by simp) ?_
    refine AllReadyH.cons (o := _) rfl (fun K hK => ?_) AllReadyH.nil
    go_simp
    refine (concat_any _ _ 5 5 (1 + (szN l.s).length + 32 + (szN r.s).length + 32) _ _ (unhid P5) rfl (by simp [catN, DL.out, DR.out]; omega) (by simp) (by have := szN_le l.s; have := szN_le r.s; omega) (by decide)).mono ?_
    rintro e w8 ⟨A8, c8, rfl, o8, hq8⟩
    have hb8 := hb7.trans (hq8.mono hb7.size)
    have R8 := hid (Row.of_own o8)
    clear o8 P5
    go_wp2_with fail
    refine hK.out _ _ hb8 (fun _ => ?_)
    refine wpAnyH_ready (rs := [13]) (by kernel_rfl) (by simp) ?_
    refine AllReadyH.cons (o := _) rfl (fun K hK => ?_) AllReadyH.nil
    go_simp
    refine hK.out _ _ hb8 (fun _ => ?_)
    refine wpAnyH_done (by kernel_rfl) ?_ _
    have hc8 : catN [⟨some ⟨gB, 0, none⟩, 1, 1, [26]⟩, ⟨AF, (szN l.s).length, cF, szN l.s⟩, ⟨some ⟨g2, 1, none⟩, 32, 32, l.d⟩, ⟨AS, (szN r.s).length, cS, szN r.s⟩, ⟨some ⟨g3, 1, none⟩, 32, 32, r.d⟩] = ndB l r := by simp [catN, ndB]
    rw [hc8] at R8
    clear hc8
    go_wp2_with fail
    refine (sum_any (ndB l r) A8 _ c8 _ _ (unhid R8) (Nat.le_refl _) (by have := szN_le l.s; have := szN_le r.s; omega) (ndB_B8 L8.out R8'.out hl0 hr0) ((unhid HL).below ((unhid E4).trans (hb8.mono (unhid E4).size)) h0) (by have := (unhid E4).size; have := hb8.size; omega)).mono ?_
    rintro e w9 ⟨rfl, hq9⟩
    have hb9 := hb8.trans (hq9.mono hb8.size)
    have B9 := hid ((unhid B4).below hb9 hg4)
    have E9 := hid ((unhid E4).trans (hb9.mono (unhid E4).size))
    have hwg4 := HWG.out
    clear hq9 hb8 R8
    go_wp2_with (with_reducible refine halt_op (some 37) (.build _ _) (fun K hK => ?_))
    refine go_on hK ?_; clear hK
    refine build_tot rfl (.tmp 34) (.tmp 36) rfl (d := Sh2.sum (ndB l r)) (Sh2.sum_len _) rfl rfl ?_
    refine store_row totT (vs := tc (ndT l r)) rfl (.tmp 4) (.tmp 37) rfl rfl rfl (tc_len (Sh2.sum_len _)) (tc_one _) (unhid B9) (by simp [tc, zeroT, bytes, up]) ?_
    intro wA bA gA
    have BA := hid bA
    have EA := hid ((unhid E9).grown gA (unhid E9).size (fun q hq => by injection hq with hq; omega))
    clear bA gA
    go_wp2_with fail
    exact bodyPost_ret (results_row_tmp rfl _ _ g4 _ (tc (ndT l r)).toArray (0, 0) _ rfl (unhid BA) Tryd.underlying38 rfl (by rw [List.size_toArray, tc_len (Sh2.sum_len _)]; exact totT.size)) rfl ⟨rfl, unhid EA⟩
  · go_simp
    refine (of_nat l.s w4d hl0 hl1).mono ?_
    rintro e w5 ⟨AF, cF, rfl, rF, hq5⟩
    have hb5 := hbd.trans (hq5.mono hbd.size)
    have RF := hid rF
    skip
    clear rF
    go_wp2_with fail
    refine hK.out _ _ hb5 (fun _ => ?_)
    refine wpAnyH_ready (rs := [0, 8]) (by kernel_rfl) (by simp) ?_
    refine AllReadyH.cons (o := _) rfl (fun K hK => ?_) (AllReadyH.cons (o := _) rfl (fun K hK => ?_) AllReadyH.nil)
    · go_simp
      have hb6 : Below w4.heap.size w4 (w5.alloc (.cells #[.int .u8 26] 5)) := hb5.alloc hb5.size _
      have rB := Row.lit w5 5 #[.int .u8 26] 1 (bytes [26]) rfl rfl
      obtain ⟨gB, hgB⟩ : ∃ gB, gB = w5.heap.size := ⟨_, rfl⟩
      have hsB : (w5.alloc (.cells #[.int .u8 26] 5)).heap.size = gB + 1 := by rw [hgB]; simp
      rw [← hgB] at rB
      rw [← hgB]
      have RF := hid (((unhid RF).alloc (Nat.le_refl _) (.cells #[.int .u8 26] 5)).more (show w5.heap.size ≤ (w5.alloc (.cells #[.int .u8 26] 5)).heap.size by simp))
      obtain ⟨w6, hw6⟩ : ∃ W, W = w5.alloc (.cells #[.int .u8 26] 5) := ⟨_, rfl⟩
      rw [← hw6] at rB hb6 hsB RF
      rw [← hw6]
      have RB := hid (rB.more (show gB + 1 ≤ w6.heap.size by omega))
      clear hw6 rB hsB hgB
      refine hK.out _ _ hb6 (fun _ => ?_)
      refine wpAnyH_ready (rs := [8]) (by kernel_rfl) (by simp) ?_
      refine AllReadyH.cons (o := _) rfl (fun K hK => ?_) AllReadyH.nil
      go_simp
      refine (of_nat r.s w6 hr0 hr1).mono ?_
      rintro e w7 ⟨AS, cS, rfl, rS, hq7⟩
      have hb7 := hb6.trans (hq7.mono hb6.size)
      have RS := hid rS
      have RF := hid (((unhid RF).below hq7).more hq7.size)
      have RB := hid (((unhid RB).below hq7).more hq7.size)
      clear rS
      go_wp2_with fail
      refine hK.out _ _ hb7 (fun _ => ?_)
      refine wpAnyH_ready (rs := [11]) (by kernel_rfl) (by simp) ?_
      refine AllReadyH.cons (o := _) rfl (fun K hK => ?_) AllReadyH.nil
      go_simp
      have P5 := hid (parts5 (W := w7) 49 (unhid RB) (unhid RF) ((unhid RL).out w7 hb7) (unhid RS) ((unhid RR).out w7 hb7) 1 cF 32 cS 32)
      have hb7 := hb7.alloc hb7.size (.cells #[.slice (some ⟨gB, 0, none⟩) 1 1, .slice AF (szN l.s).length cF, .slice (some ⟨g2, 1, none⟩) 32 32, .slice AS (szN r.s).length cS, .slice (some ⟨g3, 1, none⟩) 32 32] 49)
      refine hK.out _ _ hb7 (fun _ => ?_)
      refine wpAnyH_ready (rs := [12]) (by kernel_rfl) (by simp) ?_
      refine AllReadyH.cons (o := _) rfl (fun K hK => ?_) AllReadyH.nil
      go_simp
      refine (concat_any _ _ 5 5 (1 + (szN l.s).length + 32 + (szN r.s).length + 32) _ _ (unhid P5) rfl (by simp [catN, DL.out, DR.out]; omega) (by simp) (by have := szN_le l.s; have := szN_le r.s; omega) (by decide)).mono ?_
      rintro e w8 ⟨A8, c8, rfl, o8, hq8⟩
      have hb8 := hb7.trans (hq8.mono hb7.size)
      have R8 := hid (Row.of_own o8)
      clear o8 P5
      go_wp2_with fail
      refine hK.out _ _ hb8 (fun _ => ?_)
      refine wpAnyH_ready (rs := [13]) (by kernel_rfl) (by simp) ?_
      refine AllReadyH.cons (o := _) rfl (fun K hK => ?_) AllReadyH.nil
      go_simp
      refine hK.out _ _ hb8 (fun _ => ?_)
      refine wpAnyH_done (by kernel_rfl) ?_ _
      have hc8 : catN [⟨some ⟨gB, 0, none⟩, 1, 1, [26]⟩, ⟨AF, (szN l.s).length, cF, szN l.s⟩, ⟨some ⟨g2, 1, none⟩, 32, 32, l.d⟩, ⟨AS, (szN r.s).length, cS, szN r.s⟩, ⟨some ⟨g3, 1, none⟩, 32, 32, r.d⟩] = ndB l r := by simp [catN, ndB]
      rw [hc8] at R8
      clear hc8
      go_wp2_with fail
      refine (sum_any (ndB l r) A8 _ c8 _ _ (unhid R8) (Nat.le_refl _) (by have := szN_le l.s; have := szN_le r.s; omega) (ndB_B8 L8.out R8'.out hl0 hr0) ((unhid HL).below ((unhid E4).trans (hb8.mono (unhid E4).size)) h0) (by have := (unhid E4).size; have := hb8.size; omega)).mono ?_
      rintro e w9 ⟨rfl, hq9⟩
      have hb9 := hb8.trans (hq9.mono hb8.size)
      have B9 := hid ((unhid B4).below hb9 hg4)
      have E9 := hid ((unhid E4).trans (hb9.mono (unhid E4).size))
      have hwg4 := HWG.out
      clear hq9 hb8 R8
      go_wp2_with (with_reducible refine halt_op (some 37) (.build _ _) (fun K hK => ?_))
      refine go_on hK ?_; clear hK
      refine build_tot rfl (.tmp 34) (.tmp 36) rfl (d := Sh2.sum (ndB l r)) (Sh2.sum_len _) rfl rfl ?_
      refine store_row totT (vs := tc (ndT l r)) rfl (.tmp 4) (.tmp 37) rfl rfl rfl (tc_len (Sh2.sum_len _)) (tc_one _) (unhid B9) (by simp [tc, zeroT, bytes, up]) ?_
      intro wA bA gA
      have BA := hid bA
      have EA := hid ((unhid E9).grown gA (unhid E9).size (fun q hq => by injection hq with hq; omega))
      clear bA gA
      go_wp2_with fail
      exact bodyPost_ret (results_row_tmp rfl _ _ g4 _ (tc (ndT l r)).toArray (0, 0) _ rfl (unhid BA) Tryd.underlying38 rfl (by rw [List.size_toArray, tc_len (Sh2.sum_len _)]; exact totT.size)) rfl ⟨rfl, unhid EA⟩
    · go_simp
      refine (of_nat r.s w5 hr0 hr1).mono ?_
      rintro e w6 ⟨AS, cS, rfl, rS, hq6⟩
      have hb6 := hb5.trans (hq6.mono hb5.size)
      have RS := hid rS
      have RF := hid (((unhid RF).below hq6).more hq6.size)
      clear rS
      go_wp2_with fail
      refine hK.out _ _ hb6 (fun _ => ?_)
      refine wpAnyH_ready (rs := [0]) (by kernel_rfl) (by simp) ?_
      refine AllReadyH.cons (o := _) rfl (fun K hK => ?_) AllReadyH.nil
      go_simp
      have hb7 : Below w4.heap.size w4 (w6.alloc (.cells #[.int .u8 26] 5)) := hb6.alloc hb6.size _
      have rB := Row.lit w6 5 #[.int .u8 26] 1 (bytes [26]) rfl rfl
      obtain ⟨gB, hgB⟩ : ∃ gB, gB = w6.heap.size := ⟨_, rfl⟩
      have hsB : (w6.alloc (.cells #[.int .u8 26] 5)).heap.size = gB + 1 := by rw [hgB]; simp
      rw [← hgB] at rB
      rw [← hgB]
      have RF := hid (((unhid RF).alloc (Nat.le_refl _) (.cells #[.int .u8 26] 5)).more (show w6.heap.size ≤ (w6.alloc (.cells #[.int .u8 26] 5)).heap.size by simp))
      have RS := hid (((unhid RS).alloc (Nat.le_refl _) (.cells #[.int .u8 26] 5)).more (show w6.heap.size ≤ (w6.alloc (.cells #[.int .u8 26] 5)).heap.size by simp))
      obtain ⟨w7, hw7⟩ : ∃ W, W = w6.alloc (.cells #[.int .u8 26] 5) := ⟨_, rfl⟩
      rw [← hw7] at rB hb7 hsB RF RS
      rw [← hw7]
      have RB := hid (rB.more (show gB + 1 ≤ w7.heap.size by omega))
      clear hw7 rB hsB hgB
      refine hK.out _ _ hb7 (fun _ => ?_)
      refine wpAnyH_ready (rs := [11]) (by kernel_rfl) (by simp) ?_
      refine AllReadyH.cons (o := _) rfl (fun K hK => ?_) AllReadyH.nil
      go_simp
      have P5 := hid (parts5 (W := w7) 49 (unhid RB) (unhid RF) ((unhid RL).out w7 hb7) (unhid RS) ((unhid RR).out w7 hb7) 1 cF 32 cS 32)
      have hb7 := hb7.alloc hb7.size (.cells #[.slice (some ⟨gB, 0, none⟩) 1 1, .slice AF (szN l.s).length cF, .slice (some ⟨g2, 1, none⟩) 32 32, .slice AS (szN r.s).length cS, .slice (some ⟨g3, 1, none⟩) 32 32] 49)
      refine hK.out _ _ hb7 (fun _ => ?_)
      refine wpAnyH_ready (rs := [12]) (by kernel_rfl) (by simp) ?_
      refine AllReadyH.cons (o := _) rfl (fun K hK => ?_) AllReadyH.nil
      go_simp
      refine (concat_any _ _ 5 5 (1 + (szN l.s).length + 32 + (szN r.s).length + 32) _ _ (unhid P5) rfl (by simp [catN, DL.out, DR.out]; omega) (by simp) (by have := szN_le l.s; have := szN_le r.s; omega) (by decide)).mono ?_
      rintro e w8 ⟨A8, c8, rfl, o8, hq8⟩
      have hb8 := hb7.trans (hq8.mono hb7.size)
      have R8 := hid (Row.of_own o8)
      clear o8 P5
      go_wp2_with fail
      refine hK.out _ _ hb8 (fun _ => ?_)
      refine wpAnyH_ready (rs := [13]) (by kernel_rfl) (by simp) ?_
      refine AllReadyH.cons (o := _) rfl (fun K hK => ?_) AllReadyH.nil
      go_simp
      refine hK.out _ _ hb8 (fun _ => ?_)
      refine wpAnyH_done (by kernel_rfl) ?_ _
      have hc8 : catN [⟨some ⟨gB, 0, none⟩, 1, 1, [26]⟩, ⟨AF, (szN l.s).length, cF, szN l.s⟩, ⟨some ⟨g2, 1, none⟩, 32, 32, l.d⟩, ⟨AS, (szN r.s).length, cS, szN r.s⟩, ⟨some ⟨g3, 1, none⟩, 32, 32, r.d⟩] = ndB l r := by simp [catN, ndB]
      rw [hc8] at R8
      clear hc8
      go_wp2_with fail
      refine (sum_any (ndB l r) A8 _ c8 _ _ (unhid R8) (Nat.le_refl _) (by have := szN_le l.s; have := szN_le r.s; omega) (ndB_B8 L8.out R8'.out hl0 hr0) ((unhid HL).below ((unhid E4).trans (hb8.mono (unhid E4).size)) h0) (by have := (unhid E4).size; have := hb8.size; omega)).mono ?_
      rintro e w9 ⟨rfl, hq9⟩
      have hb9 := hb8.trans (hq9.mono hb8.size)
      have B9 := hid ((unhid B4).below hb9 hg4)
      have E9 := hid ((unhid E4).trans (hb9.mono (unhid E4).size))
      have hwg4 := HWG.out
      clear hq9 hb8 R8
      go_wp2_with (with_reducible refine halt_op (some 37) (.build _ _) (fun K hK => ?_))
      refine go_on hK ?_; clear hK
      refine build_tot rfl (.tmp 34) (.tmp 36) rfl (d := Sh2.sum (ndB l r)) (Sh2.sum_len _) rfl rfl ?_
      refine store_row totT (vs := tc (ndT l r)) rfl (.tmp 4) (.tmp 37) rfl rfl rfl (tc_len (Sh2.sum_len _)) (tc_one _) (unhid B9) (by simp [tc, zeroT, bytes, up]) ?_
      intro wA bA gA
      have BA := hid bA
      have EA := hid ((unhid E9).grown gA (unhid E9).size (fun q hq => by injection hq with hq; omega))
      clear bA gA
      go_wp2_with fail
      exact bodyPost_ret (results_row_tmp rfl _ _ g4 _ (tc (ndT l r)).toArray (0, 0) _ rfl (unhid BA) Tryd.underlying38 rfl (by rw [List.size_toArray, tc_len (Sh2.sum_len _)]; exact totT.size)) rfl ⟨rfl, unhid EA⟩

end Go.Proofs.YtjdffhlbiiefaaaDoor

