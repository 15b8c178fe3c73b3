/- The walks of SizeTells and SizePacks. -/
import Derived.Test.YtopddinpmiefjaaDoorSizeTellsW
import Derived.Test.YtopddinpmiefjaaDoorTold
import Derived.Test.YtopddinpmiefjaaDoorBytesW
namespace Go.Proofs.YtopddinpmiefjaaDoor
set_option linter.unusedVariables false
open Go.RowKit Go.Mny
theorem packed_any (A : Option Addr) (n c : Nat) (l : List Int) (w : World) (h : Row w w.heap.size 1 A n (l.map (Value.int .u8))) (hn : n ≤ 140737488355000) :
    Calls Tryd.prog 21 #[.slice A n c] w (Fresh w (Siz.ofN n ++ l)) := by
  have hl := hid h.length
  have H := hid h; clear h
  have wl : (Siz.ofN n).length ≤ 9 := by
    rw [Siz.ofN_length]
    rcases Siz.wide_cases n with ⟨_, e⟩ | ⟨_, _, e⟩ | ⟨_, _, e⟩ | ⟨_, e⟩ <;> rw [e] <;> omega
  go_enter Tryd.func21, Tryd.ntmps21
  go_wp2_with fail
  refine (rsize_any n _ (by omega) (by omega)).mono ?_
  rintro e w1 ⟨A1, c1, rfl, ho, hb⟩
  have HO := hid ho; have HB := hid hb; clear ho hb
  go_wp2_with (at_builtin; refine halt_at (fun K hK => ?_))
  refine go_on hK ?_; clear hK
  refine app_step bytesE rfl (.tmp 5) (.tmp 6) rfl rfl (unhid HO) rfl ((unhid H).below (unhid HB)) (ints_one _ _) (by simp [maxLen]; omega) (by omega) (unhid HB).size ?_
  intro A2 c2 w2 o2 g2 l2
  have b2 := Below.grown (unhid HB) g2 (unhid HB).size (fun q hq => ((unhid HO).from_ q hq).1)
  have O2 := hid o2; have B2 := hid b2; clear o2 b2 g2 l2
  go_wp2
  go_ret
  have el : (Siz.ofN n ++ l).length = (Siz.ofN n).length + n := by rw [List.length_append, hl.out]
  exact ⟨A2, c2, by rw [el]; rfl, by rw [el, List.map_append]; exact unhid O2, unhid B2⟩
theorem bytes_of_wf' {l : List Int} (h : ∀ z ∈ l, (Lit.int .u8 z).wf = true) : Siz.Bytes l := fun z hz => by have := bounds_u8 (h z hz); omega
set_option maxHeartbeats 2000000 in
set_option maxRecDepth 100000 in
theorem sizeTells_walk (a0 : Int) (A1 : Option Addr) (n1 c1 : Nat) (l1 : List Int) (a2 : Int) (w : World) (f0 : (Lit.int .i64 a0).wf = true) (b1 : n1 ≤ c1) (g1 : c1 ≤ maxLen) (r1 : Row w w.heap.size 1 A1 n1 (l1.map (Value.int .u8))) (f1 : ∀ z ∈ l1, (Lit.int .u8 z).wf = true) (f2 : (Lit.int .i64 a2).wf = true) (rb1 : n1 * 1 ≤ 140737488351232) (hH : Hdl w) :
    Calls Tryd.prog 4 #[.int .i64 a0, .slice A1 n1 c1, .int .i64 a2] w fun e w' => e = .returned (.bool true) ∧ Below w.heap.size w w' := by
  have v0 := bounds_i64 f0
  have HR := hid r1; have HH := hid hH; have HY := hid (bytes_of_wf' f1)
  obtain ⟨g, hg⟩ : ∃ g, readAt l1 a2 = g := ⟨_, rfl⟩
  obtain ⟨m, nx, er⟩ := g
  obtain ⟨ev, hev⟩ : ∃ v, errVal er = v := ⟨_, rfl⟩
  have SA : Hid (∀ w' : World, Below w.heap.size w w' → Calls Tryd.prog 18 #[.slice A1 n1 c1, .int .i64 a2] w' (GotP w' m nx er)) := hid fun w' hb' => by
    have := sizeAt_any l1 A1 n1 c1 _ a2 w' ((unhid HR).below hb') HY.out (by omega) b1 hb'.size
    rwa [hg] at this
  have RA : Hid (∀ w' : World, Below w.heap.size w w' → Calls Tryd.prog 19 #[.slice A1 n1 c1, .int .i64 a2] w' fun e w'' => e = .returned (.tuple #[.int .i64 m, .int .i64 nx, ev]) ∧ w' = w'') := hid fun w' hb' => by
    have := read_any A1 n1 c1 _ a2 l1 w' ((unhid HR).below hb') HY.out (by omega) b1
    unfold ReadPost at this
    rw [hg] at this
    rw [← hev]
    exact this
  have EA : Hid (∀ w' : World, Hdl w' → Calls Tryd.prog 7 #[ev, .int .i64 er] w' fun e w'' => e = .returned (.bool true) ∧ Below w'.heap.size w' w'') := hid fun w' h => by
    have := error_any er er w' h
    rw [hev] at this
    simpa using this
  clear hg hev r1 f0 f1 f2 hH g1 b1 rb1 HY
  go_enter Tryd.func4, Tryd.ntmps4
  by_cases hc : a0 < 0
  case' pos =>
    go_wp2_with fail
    refine (write_err a0 _ hc).mono ?_
    rintro e w' ⟨rfl, rfl⟩
    go_wp2_with fail
    refine (error_err 2 2 (by decide) _ (unhid HH)).mono ?_
    rintro e w3 ⟨rfl, hb3⟩
    rw [show ((2 : Int) == 2) = true from rfl]
    go_wp2_with fail
    refine (bytes_any none none 0 0 0 0 0 0 [] [] _ (Row.nil _ _ _ _) (Row.nil _ _ _ _) (by decide) (by decide)).mono ?_
    rintro e w4 ⟨k, rfl, hw4⟩
    have F4 : Hid (Below w.heap.size w w4) := hid (by rw [← hw4]; exact hb3.drewN k)
    rw [show decide (([] : List Int) = []) = true from rfl]
    clear hw4 hb3
  case' neg =>
    go_wp2_with fail
    refine (rsize_any a0 _ (by omega) (by omega)).mono ?_
    rintro e w1 ⟨A3, c3, rfl, o3, hb1⟩
    have HB1 := hid hb1
    have O3 := hid (Row.of_own o3)
    clear hb1 o3
    obtain ⟨s, hs⟩ : ∃ s, Siz.ofN a0 = s := ⟨_, rfl⟩
    have hsl : s.length ≤ 9 := by
      rw [← hs, Siz.ofN_length]
      rcases Siz.wide_cases a0 with ⟨_, e⟩ | ⟨_, _, e⟩ | ⟨_, _, e⟩ | ⟨_, e⟩ <;> rw [e] <;> omega
    have WR := write_ok a0 w1 (by omega) (by omega)
    rw [hs] at WR O3
    rw [hs]
    obtain ⟨q, hq⟩ : ∃ q, s.length = q := ⟨_, rfl⟩
    rw [hq] at WR O3 hsl
    rw [hq]
    have HWR := hid WR
    clear WR hs hq
    go_wp2_with fail
    refine (unhid HWR).mono ?_
    rintro e w2 ⟨A4, c4, rfl, o4, hb2⟩
    have HB2 := hid ((unhid HB1).trans (hb2.mono (unhid HB1).size))
    have O4 := hid (Row.of_own o4)
    have P3 := hid ((unhid O3).below hb2)
    clear o4 HWR
    go_wp2_with fail
    refine (error_nil 0 _ ((unhid HH).of_below (unhid HB2))).mono ?_
    rintro e w3 ⟨rfl, hb3⟩
    rw [show ((0 : Int) == 0) = true from rfl]
    have HB3 := hid ((unhid HB2).trans (hb3.mono (unhid HB2).size))
    have Q4 := hid ((unhid O4).below hb3)
    have Q3 := hid ((unhid P3).below (hb3.mono hb2.size))
    clear hb3 hb2 O3 O4 P3
    go_wp2_with fail
    refine (bytes_any A4 A3 q c4 q c3 _ _ s s _ (unhid Q4) (unhid Q3) (by omega) (by omega)).mono ?_
    rintro e w4 ⟨k, rfl, hw4⟩
    have F4 : Hid (Below w.heap.size w w4) := hid (by rw [← hw4]; exact (unhid HB3).drewN k)
    rw [show decide (s = s) = true by simp]
    clear hw4 HB1 HB2 HB3 Q3 Q4
  all_goals
    go_wp2_with fail
    refine ((unhid SA) _ (unhid F4)).mono ?_
    rintro e w5 ⟨rfl, hb5⟩
    have F5 := hid ((unhid F4).trans (hb5.mono (unhid F4).size))
    clear hb5 F4
    go_wp2_with fail
    refine ((unhid RA) _ ((unhid F5).alloc (unhid F5).size _)).mono ?_
    rintro e w' ⟨rfl, rfl⟩
    go_wp2_with fail
    refine ((unhid EA) _ ((unhid HH).of_below ((unhid F5).alloc (unhid F5).size _))).mono ?_
    rintro e w6 ⟨rfl, hb6⟩
    have F6 := hid (((unhid F5).alloc (unhid F5).size (.cells #[.int .i64 m, .int .i64 nx, .int .i64 er] 43)).trans (hb6.mono (by have := (unhid F5).size; simp; omega)))
    have B6 : Blk w6 w5.heap.size 43 #[.int .i64 m, .int .i64 nx, .int .i64 er] := (Blk.new w5 43 #[.int .i64 m, .int .i64 nx, .int .i64 er]).below hb6 (by simp)
    have d0 := B6.cell 0; have d1 := B6.cell 1
    simp at d0 d1
    clear hb6 B6 F5
    go_wp2_with fail
    go_ret
    exact ⟨by simp, unhid F6⟩
set_option maxHeartbeats 2000000 in
set_option maxRecDepth 100000 in
theorem sizePacks_walk (A0 : Option Addr) (n0 c0 : Nat) (l0 : List Int) (A1 : Option Addr) (n1 c1 : Nat) (l1 : List Int) (a2 : Int) (w : World) (b0 : n0 ≤ c0) (g0 : c0 ≤ maxLen) (r0 : Row w w.heap.size 1 A0 n0 (l0.map (Value.int .u8))) (f0 : ∀ z ∈ l0, (Lit.int .u8 z).wf = true) (b1 : n1 ≤ c1) (g1 : c1 ≤ maxLen) (r1 : Row w w.heap.size 1 A1 n1 (l1.map (Value.int .u8))) (f1 : ∀ z ∈ l1, (Lit.int .u8 z).wf = true) (f2 : (Lit.int .i64 a2).wf = true) (rb0 : n0 * 1 ≤ 140737488351232) (rb1 : n1 * 1 ≤ 140737488351232) (hH : Hdl w) :
    Calls Tryd.prog 5 #[.slice A0 n0 c0, .slice A1 n1 c1, .int .i64 a2] w fun e w' => e = .returned (.bool true) ∧ Below w.heap.size w w' := by
  have HR0 := hid r0; have HR := hid r1; have HH := hid hH; have HY := hid (bytes_of_wf' f1)
  have hl1 := r1.length
  have hl0 := r0.length
  obtain ⟨g, hg⟩ : ∃ g, readAt l1 a2 = g := ⟨_, rfl⟩
  obtain ⟨m, nx, er⟩ := g
  obtain ⟨u, hu⟩ : ∃ u, unpackAt l1 a2 = u := ⟨_, rfl⟩
  obtain ⟨ul, un, ue⟩ := u
  obtain ⟨uv, huv⟩ : ∃ v, errVal ue = v := ⟨_, rfl⟩
  obtain ⟨q, hq⟩ : ∃ q, ul.length = q := ⟨_, rfl⟩
  have hqn : q ≤ n1 := by
    rw [← hq, show ul = (unpackAt l1 a2).1 by rw [hu], ← hl1]
    unfold unpackAt
    simp only
    split
    · simp
    · split
      · simp
      · simp only [List.length_take, List.length_drop]; omega
  have SA : Hid (∀ w' : World, Below w.heap.size w w' → Calls Tryd.prog 18 #[.slice A1 n1 c1, .int .i64 a2] w' (GotP w' m nx er)) := hid fun w' hb' => by
    have := sizeAt_any l1 A1 n1 c1 _ a2 w' ((unhid HR).below hb') HY.out (by omega) b1 hb'.size
    rwa [hg] at this
  have UA : Hid (∀ w' : World, Below w.heap.size w w' → Calls Tryd.prog 22 #[.slice A1 n1 c1, .int .i64 a2] w' fun e w'' => ∃ A c, e = .returned (.tuple #[.slice A q c, .int .i64 un, uv]) ∧ Own w'' w'.heap.size 5 1 A q c (ul.map (Value.int .u8)) ∧ Below w'.heap.size w' w'') := hid fun w' hb' => by
    have := unpack_any A1 n1 c1 _ a2 l1 w' ((unhid HR).below hb') HY.out hb'.size (by omega) b1
    unfold UnpackPost at this
    rw [hu] at this
    rw [← huv, ← hq]
    exact this
  have EA : Hid (∀ w' : World, Hdl w' → Calls Tryd.prog 7 #[uv, .int .i64 ue] w' fun e w'' => e = .returned (.bool true) ∧ Below w'.heap.size w' w'') := hid fun w' h => by
    have := error_any ue ue w' h
    rw [huv] at this
    simpa using this
  have BA : Hid (∀ (w' : World) (A B : Option Addr) (c d D D2 : Nat), Row w' D 1 A q (ul.map (Value.int .u8)) → Row w' D2 1 B q (ul.map (Value.int .u8)) → Calls Tryd.prog 17 #[.slice A q c, .slice B q d] w' fun e w'' => ∃ k, e = .returned (.bool true) ∧ w'.drewN k = w'') := hid fun w' A B c d D D2 h1 h2 => by
    have := bytes_any A B q c q d D D2 ul ul w' h1 h2 (by omega) (by omega)
    unfold BytesPost at this
    simpa using this
  have hcase : (er ≠ 0 ∧ ul = [] ∧ un = 0 ∧ ue = er) ∨ (er = 0 ∧ (0 ≤ nx ∧ 0 ≤ m ∧ nx ≤ n1) ∧ (n1 : Int) - nx < m ∧ ul = [] ∧ un = 0 ∧ ue = 3) ∨ (er = 0 ∧ (0 ≤ nx ∧ 0 ≤ m ∧ nx ≤ n1) ∧ ¬ (n1 : Int) - nx < m ∧ ul = (l1.drop nx.toNat).take m.toNat ∧ un = nx + m ∧ ue = 0) := by
    have hu2 := hu
    unfold unpackAt at hu2
    rw [hg] at hu2
    simp only at hu2
    by_cases he : er = 0
    · subst he
      obtain ⟨g0, g1, g2, g3, g4, _⟩ := readAt_ok HY.out hg
      rw [if_neg (by simp)] at hu2
      by_cases hk : (l1.length : Int) - nx < m
      · rw [if_pos hk] at hu2
        simp only [Prod.mk.injEq] at hu2
        exact .inr (.inl ⟨rfl, ⟨by omega, g1, by omega⟩, by omega, hu2.1.symm, hu2.2.1.symm, hu2.2.2.symm⟩)
      · rw [if_neg hk] at hu2
        simp only [Prod.mk.injEq] at hu2
        exact .inr (.inr ⟨rfl, ⟨by omega, g1, by omega⟩, by omega, hu2.1.symm, hu2.2.1.symm, hu2.2.2.symm⟩)
    · rw [if_pos he] at hu2
      simp only [Prod.mk.injEq] at hu2
      exact .inl ⟨he, hu2.1.symm, hu2.2.1.symm, hu2.2.2.symm⟩
  clear hg hu huv HY r0 r1 hH f0 f1 f2 g0 g1 hl0
  obtain ⟨pk, hpk⟩ : ∃ pk, Siz.ofN n0 ++ l0 = pk := ⟨_, rfl⟩
  obtain ⟨z, hz⟩ : ∃ z, pk.length = z := ⟨_, rfl⟩
  have hzb : z ≤ 140737488351300 := by
    rw [← hz, ← hpk, List.length_append, (unhid HR0).length, Siz.ofN_length]
    rcases Siz.wide_cases n0 with ⟨_, e⟩ | ⟨_, _, e⟩ | ⟨_, _, e⟩ | ⟨_, e⟩ <;> rw [e] <;> omega
  have PA := hid (pack_any A0 n0 c0 l0 w (unhid HR0) (by omega))
  have PB : Hid (∀ w' : World, Below w.heap.size w w' → Calls Tryd.prog 21 #[.slice A0 n0 c0] w' (Fresh w' pk)) := hid fun w' hb' => by
    have := packed_any A0 n0 c0 l0 w' (((unhid HR0).below hb').more hb'.size) (by omega)
    rwa [hpk] at this
  rw [hpk] at PA
  clear hpk
  go_enter Tryd.func5, Tryd.ntmps5
  go_wp2_with fail
  refine (unhid PA).mono ?_
  rintro e w1 ⟨A2, c2, rfl, o2, hb1⟩
  rw [hz] at o2 ⊢
  have F1 := hid hb1; have O2 := hid (Row.of_own o2)
  clear o2 hb1 PA
  go_wp2_with fail
  refine ((unhid PB) _ (unhid F1)).mono ?_
  rintro e w2 ⟨A3, c3, rfl, o3, hb2⟩
  rw [hz] at o3 ⊢
  have F2 := hid ((unhid F1).trans (hb2.mono (unhid F1).size)); have O3 := hid (Row.of_own o3)
  have P2 := hid ((unhid O2).below hb2)
  clear o3 hb2 PB F1 O2
  go_wp2_with fail
  refine (bytes_any A2 A3 z c2 z c3 _ _ pk pk _ (unhid P2) (unhid O3) (by omega) (by omega)).mono ?_
  rintro e w3 ⟨k, rfl, hw3⟩
  have F3 : Hid (Below w.heap.size w w3) := hid (by rw [← hw3]; exact (unhid F2).drewN k)
  rw [show decide (pk = pk) = true by simp]
  clear hw3 F2 P2 O3 hz hzb
  go_wp2_with fail
  refine ((unhid SA) _ (unhid F3)).mono ?_
  rintro e w4 ⟨rfl, hb4⟩
  have F4 := hid ((unhid F3).trans (hb4.mono (unhid F3).size))
  have G4 := hid ((unhid F4).alloc (unhid F4).size (.cells #[.int .i64 m, .int .i64 nx, .int .i64 er] 43))
  clear hb4 F3
  rcases hcase with ⟨t0, rfl, rfl, rfl⟩ | ⟨rfl, ⟨t0, t1, t2⟩, t3, rfl, rfl, rfl⟩ | ⟨rfl, ⟨t0, t1, t2⟩, t3, t4, rfl, rfl⟩
  case' inl =>
    have t1 : (ue == 0) = false := by simp; omega
    obtain rfl : q = 0 := hq.symm
    have WR : Hid (∀ w' : World, Below w.heap.size w w' → Row w' 0 1 none 0 (([] : List Int).map (Value.int .u8))) := hid fun w' _ => Row.nil _ _ _ _
    go_wp2_with fail
  case' inr.inl =>
    obtain rfl : q = 0 := hq.symm
    have WR : Hid (∀ w' : World, Below w.heap.size w w' → Row w' 0 1 none 0 (([] : List Int).map (Value.int .u8))) := hid fun w' _ => Row.nil _ _ _ _
    go_wp2_with fail
  case' inr.inr =>
    obtain ⟨i, rfl⟩ := Int.eq_ofNat_of_zero_le t0
    obtain ⟨j, rfl⟩ := Int.eq_ofNat_of_zero_le t1
    simp only [Int.toNat_natCast] at t4
    have hqj : q = j := by rw [← hq, t4, List.length_take, List.length_drop]; omega
    subst hqj
    have hin : IntKind.i64.wrap ((i : Int) + (q : Int)) = (i : Int) + (q : Int) := IntWalk.i64_in _ (by omega)
    have HCUT : Hid (((l1.map (Value.int .u8)).take ((i + q) * 1)).drop (i * 1) = ul.map (Value.int .u8)) := hid (by
      rw [Nat.mul_one, Nat.mul_one, ← List.map_take, ← List.map_drop, List.drop_take, Nat.add_sub_cancel_left, t4])
    clear t4
    go_wp2_with (with_reducible refine halt_op (some 50) (.slice _ _ _ _ _) (fun K hK => ?_))
    refine go_on hK ?_; clear hK
    refine slice_step bytesE rfl (.tmp 46) (some (.tmp 48)) (some (.tmp 49)) rfl rfl (i := i) (j := i + q) (Bnd.at_ (k := .i64) rfl) (Bnd.at_ (k := .i64) (by first | rfl | exact congrArg (Value.int .i64) hin | go_goals)) ((unhid HR).below ((unhid F4).alloc (unhid F4).size _)) (by omega) (by omega) b1 ?_
    intro A5 r5
    rw [HCUT.out, Nat.add_sub_cancel_left] at r5
    rw [Nat.add_sub_cancel_left]
    have WR : Hid (∀ w' : World, Below w.heap.size w w' → Row w' w.heap.size 1 A5 q (ul.map (Value.int .u8))) := hid fun w' hb' => r5.keep fun p hp => (hb'.cell hp).trans (((unhid F4).alloc (unhid F4).size _).cell hp).symm
    clear r5 HCUT hin
    go_wp2_with fail
  all_goals
    refine ((unhid UA) _ ((unhid F4).alloc (unhid F4).size _)).mono ?_
    rintro e w5 ⟨A6, c6, rfl, o6, hb5⟩
    have F5 := hid ((unhid G4).trans (hb5.mono (unhid G4).size))
    have O6 := hid (Row.of_own o6)
    clear hb5 o6 F4 G4
    go_wp2_with fail
    refine ((unhid EA) _ ((unhid HH).of_below (unhid F5))).mono ?_
    rintro e w6 ⟨rfl, hb6⟩
    have F6 := hid ((unhid F5).trans (hb6.mono (unhid F5).size))
    have P6 := hid ((unhid O6).below hb6)
    clear hb6 F5 O6
    go_wp2_with fail
    refine ((unhid BA) _ _ _ _ _ _ _ (unhid P6) ((unhid WR) _ (unhid F6))).mono ?_
    rintro e w7 ⟨k2, rfl, hw7⟩
    have F7 : Hid (Below w.heap.size w w7) := hid (by rw [← hw7]; exact (unhid F6).drewN k2)
    clear hw7 F6 P6
    go_wp2_with fail
    go_ret
    exact ⟨by simp, unhid F7⟩
end Go.Proofs.YtopddinpmiefjaaDoor
