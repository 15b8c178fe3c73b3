/- The walk of the law SizeMany. -/
import Derived.Test.YtopddinpmiefjaaSizeApartW
import Derived.Deep.DeepAppendWide
namespace Go.Proofs.Ytopddinpmiefjaa
set_option linter.unusedVariables false
open Go.RowKit Go.Mny
/-- append with growslice's own room -/
theorem run_app_wide {P : Program} {w : World} {B t ty e s b : Nat} (E : Elt P t e s b) {A : Option Addr} {n c : Nat} {xs : List Value} (hown : Own w B e s A n c xs)
    {D : Nat} {A' : Option Addr} {m c' : Nat} {news : List Value} (hrow : Row w D s A' m news) (hm0 : 0 < m) (h1 : ∀ u ∈ news, u.oneCell' = true)
    (hm : n + m ≤ maxLen) (hroom : ((n + m) + (n + m) / 4 + 192) * b ≤ 281474976710656) (hB : B ≤ w.heap.size) :
    ∃ A2 c2 w2, (Builtin.append_ #[t, t] ty #[.slice A n c, .slice A' m c']).run P w = .ok (.slice A2 (n + m) c2) w2 ∧ Own w2 B e s A2 (n + m) c2 (xs ++ news) ∧ w.grownBy w2 (at_ A) := by
  obtain ⟨i, z, hi, hz, e1, e2, e3⟩ := E.info
  obtain ⟨g, o, rfl, hg, hc⟩ := hrow.cells (by omega)
  obtain ⟨v', w', hr, g1, g2, _⟩ := run_append_own_wide (P := P) w B t ty e i z s b E.under hi hz e1 e2 e3 E.pos _ n xs hown ⟨g, o, none⟩ m c' news hrow.len (by
    intro j u hu
    have hj := (List.getElem?_eq_some_iff.1 hu).1
    have hadd : (⟨g, o, none⟩ : Addr).add j = ⟨g, o + j, none⟩ := by
      unfold Addr.add; split
      · rename_i hz; subst hz; rfl
      · rfl
    rw [hadd, hc j hj]; exact hu) h1 hm hroom hB
  rw [at_own] at g2
  rcases g1.2 with ⟨rfl, hz0⟩ | ⟨g, cap, cur, rfl, r⟩
  · omega
  · exact ⟨_, _, w', hr, g1, g2⟩
theorem app_step_wide {P : Program} {t e s b : Nat} (E : Elt P t e s b) {w : World} {ops : Array Oper} {rest : List Oper} {o : Oper} {a : Act} {Q : Exit → Act → World → Prop} (hgd : o.guard = none)
    (x y : Operand) (ho : o.op = .call { callee := .builtin .append, args := #[x, y], argTypes := #[t, t] })
    {B : Nat} {A : Option Addr} {n c : Nat} {xs : List Value} (hx : a.eval x = .slice A n c) (hown : Own w B e s A n c xs)
    {D : Nat} {A' : Option Addr} {m c' : Nat} {news : List Value} (hy : a.eval y = .slice A' m c') (hrow : Row w D s A' m news) (hm0 : 0 < m) (h1 : ∀ u ∈ news, u.oneCell' = true)
    (hm : n + m ≤ maxLen) (hroom : ((n + m) + (n + m) / 4 + 192) * b ≤ 281474976710656) (hB : B ≤ w.heap.size)
    (k : ∀ A2 c2 w2, Own w2 B e s A2 (n + m) c2 (xs ++ news) → w.grownBy w2 (at_ A) → wpList P ops Q rest (a.put o.dst (.slice A2 (n + m) c2)) w2) :
    wpList P ops Q (o :: rest) a w := by
  refine wpList_plain hgd fun K hK => ?_
  obtain ⟨A2, c2, w2, hr, g1, g2⟩ := run_app_wide (P := P) (ty := o.type) E hown (c' := c') hrow hm0 h1 hm hroom hB
  unfold Oper.wp execOp
  simp only [ho, resolve, invoke, builtin, Sem.run_bind, Sem.run_pure, Result.andThen_ok, List.map_toArray, List.map_cons, List.map_nil, hx, hy, hr]
  exact hK _ _ (k A2 c2 w2 g1 g2)
theorem ofN_pos (x : Int) : 1 ≤ (Siz.ofN x).length := by rw [Siz.ofN_length]; omega
theorem ofN_le (x : Int) : (Siz.ofN x).length ≤ 9 := by
  rw [Siz.ofN_length]
  rcases Siz.wide_cases x with ⟨_, e⟩ | ⟨_, _, e⟩ | ⟨_, _, e⟩ | ⟨_, e⟩ <;> rw [e] <;> omega
theorem readAt_mid (a c : List Int) (x : Int) (h0 : 0 ≤ x) (h1 : x < 9223372036854775808) : readAt (a ++ (Siz.ofN x ++ c)) (a.length : Nat) = (x, (a.length : Int) + ((Siz.ofN x).length : Nat), 0) := by
  have hp := ofN_pos x
  unfold readAt
  rw [if_neg (by omega), if_neg (by simp only [List.length_append]; omega), Int.toNat_natCast]
  simp only [List.drop_left, Siz.read_ofN x h0 h1 c, if_true]
theorem flat_split {l : List Int} {k : Nat} {x : Int} (h : l[k]? = some x) : l.flatMap Siz.ofN = (l.take k).flatMap Siz.ofN ++ (Siz.ofN x ++ (l.drop (k + 1)).flatMap Siz.ofN) := by
  conv => lhs; rw [← List.take_append_drop k l, List.flatMap_append, drop_cons_at h, List.flatMap_cons]
theorem flat_take {l : List Int} {k : Nat} {x : Int} (h : l[k]? = some x) : (l.take (k + 1)).flatMap Siz.ofN = (l.take k).flatMap Siz.ofN ++ Siz.ofN x := by
  rw [List.take_add_one, h, List.flatMap_append]; simp
theorem take_snoc {l : List Int} {k : Nat} {x : Int} (h : l[k]? = some x) : l.take (k + 1) = l.take k ++ [x] := by rw [List.take_add_one, h]; rfl
def cat (l : List Int) (k : Nat) : List Int := (l.take k).flatMap Siz.ofN
theorem cat_bytes {l : List Int} {k : Nat} (h : ∀ z ∈ l.take k, 0 ≤ z) : Siz.Bytes (cat l k) := by
  intro x hx
  obtain ⟨z, hz, hx⟩ := List.mem_flatMap.1 hx
  exact Siz.ofN_bytes z (h z hz) x hx
theorem cat_step {l : List Int} {k n : Nat} {x : Int} (h : l[k]? = some x) (hn : l.length = n) (h0 : 0 ≤ x) (h1 : x < 9223372036854775808) : readAt (cat l n) (cat l k).length = (x, ((cat l k).length : Int) + ((Siz.ofN x).length : Nat), 0) ∧ cat l (k + 1) = cat l k ++ Siz.ofN x := by
  refine ⟨?_, flat_take h⟩
  have e : cat l n = cat l k ++ (Siz.ofN x ++ (l.drop (k + 1)).flatMap Siz.ofN) := by
    unfold cat; rw [← hn, List.take_length]; exact flat_split h
  rw [e]
  exact readAt_mid _ _ _ h0 h1
set_option maxHeartbeats 1000000 in
set_option maxRecDepth 100000 in
theorem sizeMany_walk (A0 : Option Addr) (n0 c0 : Nat) (l0 : List Int) (w : World) (b0 : n0 ≤ c0) (g0 : c0 ≤ maxLen) (r0 : Row w w.heap.size 1 A0 n0 (l0.map (Value.int .i64))) (f0 : ∀ z ∈ l0, (Lit.int .i64 z).wf = true) (rb0 : n0 * 8 ≤ 140737488351232) :
    Calls Try.prog 8 #[.slice A0 n0 c0] w fun e w' => e = .returned (.bool true) ∧ Below w.heap.size w w' := by
  have R0 := hid r0
  have hl := hid r0.length
  have V0 : Hid (∀ z ∈ l0, -9223372036854775808 ≤ z ∧ z ≤ 9223372036854775807) := fun z hz => bounds_i64 (f0 z hz)
  clear r0 f0 g0
  go_enter Try.func8, Try.ntmps8
  go_wp2_with fail
  refine (fact300 _).mono ?_
  rintro e w1 ⟨Af, cf, rfl, hof, hb1⟩
  have HB1 := hid hb1; clear hof hb1
  go_wp2_with (at_builtin; refine halt_at (fun K hK => ?_))
  go_loopw [5, 6] (fun v5 v6 wr => ∃ (k : Nat) (A : Option Addr) (c : Nat), k ≤ n0 ∧ v6 = .int .i64 k ∧ v5 = .slice A (cat l0 k).length c ∧ (cat l0 k).length ≤ 9 * k ∧ Hid (∀ z ∈ l0.take k, 0 ≤ z) ∧
    Hid (Own wr w.heap.size 5 1 A (cat l0 k).length c ((cat l0 k).map (Value.int .u8))) ∧ Hid (Below w.heap.size w wr)) (fun _ v6 _ => n0 - (intOf v6).toNat)
  case atStart => exact ⟨0, none, 0, Nat.zero_le _, rfl, by simp [cat], by simp [cat], fun z hz => by simp at hz, by simp [cat]; exact Own.none _ _ _ _, HB1⟩
  case round =>
    obtain ⟨k, A, c, hk, rfl, rfl, hkl, HP, HO, HB⟩ := hrel
    by_cases hlt : k < n0
    · obtain ⟨g, o, x, rfl, hg, hx, hcx⟩ := ((unhid R0).below (unhid HB)).int hlt
      have hxv := V0.out x (List.mem_of_getElem? hx.out)
      have i1 : (0 : Int) ≤ (k : Int) := by omega
      have i2 : (k : Int) < (n0 : Int) := by omega
      by_cases hneg : x < 0
      · go_wp2_with fail
        refine (write_err x _ hneg).mono ?_
        rintro e w' ⟨rfl, rfl⟩
        go_wp2_with fail
        go_ret
        exact ⟨rfl, unhid HB⟩
      · go_wp2_with fail
        refine (write_ok x _ (by omega) hxv.2).mono ?_
        rintro e w3 ⟨Ax, cx, rfl, hox, hbx⟩
        have HOX := hid hox; have HBX := hid hbx; clear hox hbx
        have hs3 := (unhid HBX).size
        have hs0 := (unhid HB).size
        have hxl := ofN_le x
        go_wp2_with (at_builtin; refine halt_at (fun K hK => ?_))
        refine go_on hK ?_; clear hK
        have hxp := ofN_pos x
        refine app_step_wide bytesE rfl (.tmp 46) (.tmp 47) rfl rfl ((unhid HO).below (unhid HBX) (Nat.le_refl _)) rfl (Row.of_own (unhid HOX)) (by omega) (ints_one _ _) (by simp [maxLen]; omega) (by omega) (by omega) ?_
        intro A2 c2 w2 o2 g2
        have st := flat_take hx.out
        change cat l0 (k + 1) = cat l0 k ++ Siz.ofN x at st
        have sl : (cat l0 (k + 1)).length = (cat l0 k).length + (Siz.ofN x).length := by rw [st, List.length_append]
        rw [← List.map_append, ← st, ← sl] at o2
        rw [← sl]
        have b2 := Below.grown ((unhid HB).trans ((unhid HBX).mono hs0)) g2 (by omega) (fun q hq => ((unhid HO).from_ q hq).1)
        have tk := take_snoc hx.out
        have P2 : Hid (∀ z ∈ l0.take (k + 1), 0 ≤ z) := by
          intro z hz; rw [tk] at hz
          rcases List.mem_append.1 hz with h | h
          · exact HP.out z h
          · simp at h; omega
        have HO2 := hid o2; have HB2 := hid b2
        have sl2 : (cat l0 (k + 1)).length ≤ 9 * (k + 1) := by omega
        clear o2 b2 g2 st tk sl hxp HO HB HP
        go_wp2_with (at_builtin; refine halt_at (fun K hK => ?_))
        go_roundw
        case rel => exact ⟨k + 1, A2, c2, by omega, by go_num, rfl, sl2, P2, HO2, HB2⟩
        case measure => simp [intOf]; omega
    · have hkn : k = n0 := by omega
      subst hkn
      have CB := hid (cat_bytes HP.out)
      have hcat : Hid (∀ (j : Nat) (x : Int), l0[j]? = some x → readAt (cat l0 k) (cat l0 j).length = (x, ((cat l0 j).length : Int) + ((Siz.ofN x).length : Nat), 0) ∧ cat l0 (j + 1) = cat l0 j ++ Siz.ofN x) := by
        intro j x hx
        have hm := List.mem_of_getElem? hx
        have hp : 0 ≤ x := HP.out x (by rw [← hl.out, List.take_length]; exact hm)
        exact cat_step hx hl.out hp (by have := (V0.out x hm).2; omega)
      have HRB := hid (Row.of_own (unhid HO))
      have hcA := (unhid HO).le.1
      go_wp2_with fail
      go_loopw [9, 10] (fun v9 v10 wr' => ∃ (j q : Nat), j ≤ k ∧ v10 = .int .i64 j ∧ v9 = .int .i64 (cat l0 j).length ∧ (cat l0 j).length ≤ 9 * j ∧ Hid (wr' = wr.drewN q)) (fun _ v10 _ => k - (intOf v10).toNat)
      case atStart => exact ⟨0, 0, Nat.zero_le _, rfl, by simp [cat], by simp [cat], rfl⟩
      case round =>
        obtain ⟨j, q, hj, rfl, rfl, hjl, HW⟩ := hrel
        have hw := HW.out
        subst hw
        by_cases hlt : j < k
        · obtain ⟨g, o, x, rfl, hg, hx, hcx⟩ := ((unhid R0).below (unhid HB)).int hlt
          obtain ⟨e1, e2⟩ := hcat.out j x hx.out
          have hp := ofN_pos x
          have hxl := ofN_le x
          have sl : (cat l0 (j + 1)).length = (cat l0 j).length + (Siz.ofN x).length := by rw [e2, List.length_append]
          have e3 : ((cat l0 j).length : Int) + ((Siz.ofN x).length : Nat) = ((cat l0 (j + 1)).length : Nat) := by omega
          have C2 : Hid (Calls Try.prog 20 #[.slice A (cat l0 k).length c, .int .i64 (cat l0 j).length] (wr.drewN q) fun e w' => e = .returned (.tuple #[.int .i64 x, .int .i64 ((cat l0 (j + 1)).length : Nat), .nilIface]) ∧ wr.drewN q = w') := by
            have C := read_any A (cat l0 k).length c wr.heap.size (cat l0 j).length (cat l0 k) (wr.drewN q) (Row.drewN (unhid HRB) q) CB.out (by omega) hcA
            unfold ReadPost at C
            rw [e1, e3] at C
            exact C
          clear e1 e2 e3
          have i1 : (0 : Int) ≤ (j : Int) := by omega
          have i2 : (j : Int) < (k : Int) := by omega
          go_wp2_with fail
          refine (unhid C2).mono ?_
          rintro e w' ⟨rfl, rfl⟩
          have hnx : ¬ ((cat l0 (j + 1)).length : Int) ≤ ((cat l0 j).length : Nat) := by omega
          go_wp2_with fail
          go_roundw
          case rel => exact ⟨j + 1, q, by omega, by go_num, by rw [sl]; rfl, by omega, rfl⟩
          case measure => simp [intOf]; omega
        · have hjk : j = k := by omega
          subst hjk
          go_wp2_with fail
          go_ret
          exact ⟨by simp, (unhid HB).drewN q⟩
end Go.Proofs.Ytopddinpmiefjaa
