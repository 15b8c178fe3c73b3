/- The walk of Hasher.Sum: the digest of all that was taken, in new memory alone. -/
import Derived.Test.YtlaoijnlemgdfaaDoorShaSumW
import Derived.Maps.RangeWalk
namespace Go.Proofs.YtlaoijnlemgdfaaDoor
set_option linter.unusedVariables false
open Go.RowKit Go.Mny
theorem digT : ArrI Tryd.prog 23 5 32 .u8 := ⟨Tryd.underlying23, Tryd.underlying5, by kernel_rfl, by kernel_rfl, by kernel_rfl⟩
/-- what a block lies at the end -/
def padTo (m : List Nat) (j : Nat) : List Nat := m.drop (64 * (m.length / 64)) ++ 128 :: List.replicate j 0
theorem padTo_len (m : List Nat) (j : Nat) : (padTo m j).length = m.length % 64 + 1 + j := by
  simp [padTo]; omega
theorem padTo_succ (m : List Nat) (j : Nat) : padTo m j ++ [0] = padTo m (j + 1) := by
  simp [padTo, List.replicate_succ']
/-- what is hashed at the end -/
def sumT (m : List Nat) : List Nat := m.drop (64 * (m.length / 64)) ++ Sh2.pad m.length
theorem be8_len (x : Nat) : (Sh2.be8 x).length = 8 := by simp [Sh2.be8]
theorem be8_take (x j : Nat) (hj : j < 8) : (Sh2.be8 x).take j ++ [x / 2 ^ (8 * (7 - j)) % 256] = (Sh2.be8 x).take (j + 1) := by
  have hl : j < (Sh2.be8 x).length := by rw [be8_len]; exact hj
  rw [List.take_succ_eq_append_getElem hl]
  congr 2
  simp [Sh2.be8]
theorem pad_all (m : List Nat) : padTo m (Sh2.zerosFor m.length) ++ Sh2.be8 (m.length * 8 % 18446744073709551616) = m.drop (64 * (m.length / 64)) ++ Sh2.pad m.length := by
  simp [padTo, Sh2.pad]
theorem out_get (s : List Nat) (i k x : Nat) (hi : i < 8) (hk : k < 4) (hx : s[i]? = some x) : (Sh2.out s)[4 * i + k]? = some (x / 2 ^ (24 - 8 * k) % 256) := by
  have e1 : (4 * i + k) / 4 = i := by omega
  have e2 : (4 * i + k) % 4 = k := by omega
  have e3 : s.getD i 0 = x := by simp [hx]
  rw [Sh2.out, List.getElem?_map, List.getElem?_range (by omega)]
  simp only [Option.map_some, e1, e2, e3]
theorem B8.append {l r : List Nat} (h : B8 l) (k : B8 r) : B8 (l ++ r) := fun x hx => (List.mem_append.1 hx).elim (h x) (k x)
theorem B8.drop {l : List Nat} (h : B8 l) (i : Nat) : B8 (l.drop i) := fun x hx => h x (List.mem_of_mem_drop hx)
theorem pad_B8 (n : Nat) : B8 (Sh2.pad n) := by
  intro x hx
  simp only [Sh2.pad, List.mem_append, List.mem_cons, Sh2.be8, List.mem_map] at hx
  rcases hx with (rfl | h) | ⟨i, _, rfl⟩
  · decide
  · have := (List.mem_replicate.1 h).2; omega
  · exact Nat.mod_lt _ (by decide)
theorem up_replicate (n : Nat) : up (List.replicate n 0) = List.replicate n 0 := by simp [up]
theorem sum_len_u (m : List Nat) : (up (Sh2.sum m)).length = 32 := by rw [up_len, Sh2.sum_len]
theorem hcells_range {w : World} {gh : Nat} {s : List Nat} {R : Value} {n : Nat} (h : Blk w gh 102 (hcells s R n)) : w.rangeAt gh 0 ((up s).map (Value.int .u32)) := fun j v hv => by
  have hj := (List.getElem?_eq_some_iff.1 hv).1
  rw [Nat.zero_add, h.cell]
  simp only [hcells, List.getElem?_toArray]
  rw [List.getElem?_append_left hj]; exact hv
theorem blocks_ok' (s T : List Nat) (hs : s.length = 8) (h : B32 s) : ∀ k, (Sh2.blocks k s T).length = 8 ∧ B32 (Sh2.blocks k s T)
  | 0 => ⟨hs, h⟩
  | k + 1 => by rw [blocks_snoc]; exact block_ok _ _ (blocks_ok' s T hs h k).1 (blocks_ok' s T hs h k).2
set_option maxHeartbeats 4000000 in
set_option maxRecDepth 100000 in
theorem hsum_any (gh : Nat) (m : List Nat) (A : Option Addr) (c : Nat) (w : World) (H : Hsh w gh m A c) (hm : m.length ≤ 140737488355000) (m8 : B8 m) (hL : Laid w) (h0 : 1 < gh) :
    Calls Tryd.prog 49 #[.pointer (some ⟨gh, 0, none⟩)] w fun e w' => e = .returned (.agg (cellsOf .u8 (up (Sh2.sum m)))) ∧ Below w.heap.size w w' := by
  have hlt0 := H.blk.lt'
  have sl0 := (blocks_ok m (m.length / 64)).1
  have c8 : ∀ w', Below w.heap.size w w' → w'.cell? ⟨gh, 8, none⟩ = some (.slice A (m.length % 64) c) := fun w' hb => by rw [hb.cell hlt0, H.blk.cell, (hcells_get _ _ _ sl0).1]
  have c9 : ∀ w', Below w.heap.size w w' → w'.cell? ⟨gh, 9, none⟩ = some (.int .i64 m.length) := fun w' hb => by rw [hb.cell hlt0, H.blk.cell, (hcells_get _ _ _ sl0).2.1]
  have C8 := hid c8; have C9 := hid c9; have HH := hid H; have HL := hid hL; have M8 := hid m8
  obtain ⟨N, hN⟩ : ∃ N, m.length = N := ⟨_, rfl⟩
  rw [hN] at C8 C9 hm
  have hr64 : N % 64 < 64 := Nat.mod_lt _ (by decide)
  have HN := hid hN
  clear c8 c9 H hL m8 sl0 hN
  go_enter Tryd.func49, Tryd.ntmps49
  go_wp2_with (with_reducible refine halt_op (some 2) (.alloc _) (fun K hK => ?_))
  refine go_on hK ?_; clear hK
  refine alloc_arr digT rfl rfl ?_
  rintro gd w1 hgd s1 b1 e1
  have hge : w.heap.size ≤ gd := by omega
  have E1 := hid (e1.mono hge); have B1 := hid b1
  clear hgd
  have z8 := C8.out w1 (unhid E1)
  clear e1 b1
  go_wp2_with (at_builtin; refine halt_at (fun K hK => ?_))
  refine go_on hK ?_; clear hK
  have T0 : Row w1 w.heap.size 1 A (N % 64) (bytes (m.drop (64 * (m.length / 64)))) := by
    have := (unhid HH).rest.row.below (unhid E1)
    simpa only [HN.out] using this
  refine app_new bytesE rfl (.const (.slice none 0 0)) (.tmp 12) rfl rfl (Own.none _ (gd + 1) _ _) rfl T0 (bytes_one _) (by simp [maxLen]; omega) (by omega) (by omega) ?_
  intro A2 c2 w2 o2 g2 l2
  have G2 : Below (gd + 1) w1 w2 := Below.grown (Below.refl _ _) g2 (by omega) (fun q hq => by cases hq)
  have s2 : gd + 1 ≤ w2.heap.size := by have := G2.size; omega
  have B2 := hid ((unhid B1).below G2 (by omega))
  have E2 := hid ((unhid E1).trans (G2.mono (by omega)))
  have O2 := hid o2
  clear B1 E1 o2 g2 l2 G2 T0 z8
  go_wp2_with (at_builtin; refine halt_at (fun K hK => ?_))
  refine go_on hK ?_; clear hK
  refine app_step bytesE rfl (.tmp 14) (.tmp 15) rfl rfl ((unhid O2).alloc _) rfl (Row.lit_at _ _ _ _ _ (bytes [128]) rfl rfl rfl) (bytes_one [128]) (by simp [maxLen]; omega) (by omega) (by simp; omega) ?_
  intro A3 c3 w3 o3 g3 l3
  have p0 : bytes (m.drop (64 * (m.length / 64))) ++ bytes [128] = bytes (padTo m 0) := by rw [← bytes_append]; rfl
  rw [p0] at o3
  have G3 : Below (gd + 1) w2 w3 := Below.grown ((Below.refl _ _).alloc s2 _) g3 (by simp; omega) (fun q hq => ((unhid O2).from_ q hq).1)
  have s3 : gd + 1 ≤ w3.heap.size := by have := G3.size; omega
  have B3 := hid ((unhid B2).below G3 (by omega))
  have E3 := hid ((unhid E2).trans (G3.mono (by omega)))
  have O3 := hid o3
  clear B2 E2 O2 o3 g3 l3 G3 p0
  go_wp2_with fail
  obtain ⟨z, hz⟩ : ∃ z, Sh2.zerosFor N = z := ⟨_, rfl⟩
  have hz2 : z = (119 - N % 64) % 64 := by rw [← hz]; rfl
  have HZ := hid hz; have HZ2 := hid hz2
  have hzl : z < 64 := by omega
  clear hz hz2
  go_loopw [3] (fun v3 wr => ∃ (j L : Nat) (A1 : Option Addr) (c1 : Nat), j ≤ z ∧ Hid (L = N % 64 + 1 + j) ∧ v3 = .slice A1 L c1 ∧ Hid (Own wr (gd + 1) 5 1 A1 L c1 (bytes (padTo m j))) ∧ Hid (Below w.heap.size w wr) ∧ Hid (Blk wr gd 23 (cellsOf .u8 (List.replicate 32 0)))) (fun v3 _ => 200 - (match v3 with | .slice _ n _ => n | _ => 0))
  case atStart => exact ⟨0, _, A3, c3, Nat.zero_le _, hid rfl, rfl, O3, E3, B3⟩
  case round =>
    obtain ⟨j, L, A1, c1, hj, hL, rfl, HO, HE, HB⟩ := hrel
    have hLb : L < 200 := by have := hL.out; omega
    have hs : gd + 1 ≤ wr.heap.size := (unhid HB).lt'
    by_cases hlt : j < z
    · have t1 : ((L : Int) % 64 != 56) = true := by have := hL.out; have := HZ2.out; simp; omega
      go_wp2_with (at_builtin; refine halt_at (fun K hK => ?_))
      refine go_on hK ?_; clear hK
      refine app_step bytesE rfl (.tmp 21) (.tmp 22) rfl rfl ((unhid HO).alloc _) rfl (Row.lit_at _ _ _ _ _ (bytes [0]) rfl rfl rfl) (bytes_one [0]) (by simp [maxLen]; omega) (by omega) (by simp; omega) ?_
      intro A4 c4 w4 o4 g4 l4
      rw [← bytes_append, padTo_succ] at o4
      have G4 : Below (gd + 1) wr w4 := Below.grown ((Below.refl _ _).alloc hs _) g4 (by simp; omega) (fun q hq => ((unhid HO).from_ q hq).1)
      have B4 := hid ((unhid HB).below G4 (by omega))
      have E4 := hid ((unhid HE).trans (G4.mono (by omega)))
      have O4 := hid o4
      clear o4 g4 l4 G4 HB HE HO
      go_wp2_with fail
      go_roundw
      case rel => exact ⟨j + 1, L + 1, A4, c4, by omega, by have := hL.out; exact hid (by omega), rfl, O4, E4, B4⟩
      case measure => simp; omega
    · have hjz : j = z := by omega
      subst hjz
      have t1 : ((L : Int) % 64 != 56) = false := by have := hL.out; have := HZ2.out; simp; omega
      go_wp2_with fail
      have hL0 : L < 130 := by have := HZ2.out; have := hL.out; omega
      go_loopw [3, 4] (fun v3 v4 wr => ∃ (k L2 : Nat) (A1 : Option Addr) (c1 : Nat), k ≤ 8 ∧ Hid (L2 = L + (8 - k)) ∧ v4 = .int .i64 ((k : Int) - 1) ∧ v3 = .slice A1 L2 c1 ∧ Hid (Own wr (gd + 1) 5 1 A1 L2 c1 (bytes (padTo m j ++ (Sh2.be8 (N * 8 % 18446744073709551616)).take (8 - k)))) ∧ Hid (Below w.heap.size w wr) ∧ Hid (Blk wr gd 23 (cellsOf .u8 (List.replicate 32 0)))) (fun _ v4 _ => (intOf v4 + 1).toNat)
      case atStart => exact ⟨8, _, A1, c1, Nat.le_refl _, hid rfl, rfl, rfl, by simpa using HO, HE, HB⟩
      case round =>
        obtain ⟨k, L2, A5, c5, hk, hL2, rfl, rfl, HO, HE, HB⟩ := hrel
        have hLb : L2 < 200 := by have := hL2.out; omega
        have hs : gd + 1 ≤ wr.heap.size := (unhid HB).lt'
        cases k with
        | succ k =>
          have e1 : (((k + 1 : Nat) : Int) - 1) = (k : Int) := by omega
          rw [e1]
          have hs0 : (0 : Int) ≤ 8 * (k : Int) := by omega
          have hs1 : 8 * (k : Int) ≤ 64 := by omega
          have z9 := C9.out wr (unhid HE)
          clear e1
          go_wp2_with (at_builtin; refine halt_at (fun K hK => ?_))
          refine go_on hK ?_; clear hK
          refine app_step bytesE rfl (.tmp 28) (.tmp 39) rfl rfl ((unhid HO).alloc _) rfl (Row.lit_at _ _ _ _ _ [.int .u8 ((N : Int) * 8 / 2 ^ (8 * k) % 256)] rfl rfl rfl) (ints_one .u8 [_]) (by simp [maxLen]; omega) (by omega) (by simp; omega) ?_
          intro A6 c6 w6 o6 g6 l6
          have pj : bytes (padTo m j ++ (Sh2.be8 (N * 8 % 18446744073709551616)).take (8 - (k + 1))) ++ [.int .u8 ((N : Int) * 8 / 2 ^ (8 * k) % 256)] = bytes (padTo m j ++ (Sh2.be8 (N * 8 % 18446744073709551616)).take (8 - k)) := by
            have q := be8_take (N * 8 % 18446744073709551616) (7 - k) (by omega)
            rw [show 7 - (7 - k) = k by omega, show 7 - k + 1 = 8 - k by omega] at q
            rw [← q, show 8 - (k + 1) = 7 - k by omega, ← List.append_assoc, bytes_append _ [_], Nat.mod_eq_of_lt (show N * 8 < 18446744073709551616 by omega)]
            have e : (N : Int) * 8 / 2 ^ (8 * k) % 256 = ((N * 8 / 2 ^ (8 * k) % 256 : Nat) : Int) := by simp
            rw [e]; rfl
          rw [pj] at o6
          have G6 : Below (gd + 1) wr w6 := Below.grown ((Below.refl _ _).alloc hs _) g6 (by simp; omega) (fun q hq => ((unhid HO).from_ q hq).1)
          have B6 := hid ((unhid HB).below G6 (by omega))
          have E6 := hid ((unhid HE).trans (G6.mono (by omega)))
          have O6 := hid o6
          clear o6 g6 l6 G6 HB HE HO pj z9
          go_wp2_with fail
          go_roundw
          case rel => exact ⟨k, L2 + 1, A6, c6, by omega, by have := hL2.out; exact hid (by omega), rfl, rfl, O6, E6, B6⟩
          case measure => simp [intOf]
        | zero =>
          have e1 : (((0 : Nat) : Int) - 1) = -1 := by omega
          rw [e1]
          clear e1
          have TT : Hid (bytes (padTo m j ++ (Sh2.be8 (N * 8 % 18446744073709551616)).take (8 - 0)) = bytes (m.drop (64 * (m.length / 64)) ++ Sh2.pad m.length)) := by
            have := pad_all m
            rw [HN.out, HZ.out] at this
            rw [List.take_of_length_le (by rw [be8_len]; exact Nat.le_refl _), HN.out, ← this]
            exact rfl
          have hst : ∀ i, wr.cell? ⟨gh, i, none⟩ = w.cell? ⟨gh, i, none⟩ := fun i => (unhid HE).cell hlt0
          go_wp2_with (with_reducible refine halt_op (some 44) (.load _ _) (fun K hK => ?_))
          refine go_on hK ?_; clear hK
          obtain ⟨sl0, s320⟩ := blocks_ok m (m.length / 64)
          have hS : sumT m = m.drop (64 * (m.length / 64)) ++ Sh2.pad m.length := rfl
          have hTl : (sumT m).length = L2 := by
            have := hL2.out; have h2 := hL.out; have h3 := HZ.out; have h4 := HN.out
            rw [sumT, List.length_append, List.length_drop, Sh2.pad_len, h4, h3]
            omega
          have hT64 : L2 % 64 = 0 := by rw [← hTl, sumT, List.length_append, List.length_drop, Sh2.pad_len]; have := Sh2.tail_len m.length; omega
          have T8 := hid (show B8 (sumT m) from (B8.drop M8.out _).append (pad_B8 _))
          have HSUM := hid (Sh2.sum_split m (m.length / 64) (by omega))
          have HO' := unhid HO
          rw [TT.out, ← hS] at HO'
          rw [← hS] at HSUM
          generalize hS0 : Sh2.blocks (m.length / 64) Sh2.H0 m = S0 at sl0 s320 HSUM
          generalize sumT m = T at hTl T8 HSUM HO'
          have TO := hid (Tail.of_own HO')
          have HTL := hid hTl
          have hE := (unhid HE)
          have hrg := hcells_range ((unhid HH).blk.below hE hlt0)
          rw [hS0] at hrg
          refine load_ints stateT rfl (.tmp 43) rfl rfl hrg (by rw [up_len]; exact sl0) ?_
          refine alloc_arr stateT rfl rfl ?_
          rintro gs w6 hgs s6 b6 e6
          refine store_arr stateT (l := up S0) rfl (.tmp 5) (.tmp 44) rfl rfl rfl (by rw [up_len]; exact sl0) b6 (by simp [cellsOf]) ?_
          intro w7 b7 g7
          have e7 : Below gs wr w7 := Below.grown (by rw [hgs]; rw [hgs] at e6; exact e6) g7 (by omega) (fun q hq => by injection hq with hq; omega)
          have hgsd : gd < gs := by have := (unhid HB).lt'; omega
          have B7 := hid ((unhid HB).below e7 hgsd)
          have E7 := hid ((unhid HE).trans (e7.mono (by have := (unhid HE).size; omega)))
          have TO7 := hid ((unhid TO).kept (S := fun _ => False) (Kept.of_below e7 (by omega)) (fun _ _ h => h))
          have S7 := hid b7
          have HA5 := hid (show ∀ q, at_ A5 = some q → q < gs from fun q hq => by have := (HO'.from_ q hq).2; omega)
          have hgs' : gd + 1 ≤ gs := by omega
          clear b6 e6 g7 b7 e7 s6 hrg hE HO HO' HB HE TO hTl hst hgs hS
          go_wp2_with fail
          go_frame
          go_loopw [3] (fun v3 wq => ∃ (q L3 : Nat) (A6 : Option Addr) (c6 : Nat), 64 * q + L3 = L2 ∧ v3 = .slice A6 L3 c6 ∧ Hid (Tail wq (gd + 1) 5 A6 L3 c6 (bytes (T.drop (64 * q)))) ∧ Hid (Blk wq gs 99 (cellsOf .u32 (up (Sh2.blocks q S0 T)))) ∧ Hid (Below w.heap.size w wq) ∧ Hid (Blk wq gd 23 (cellsOf .u8 (List.replicate 32 0))) ∧ Hid (at_ A6 = at_ A5)) (fun v3 _ => match v3 with | .slice _ n _ => n | _ => 0)
          case atStart => exact ⟨0, L2, A5, c5, by omega, rfl, TO7, S7, E7, B7, hid rfl⟩
          case round =>
            obtain ⟨q, L3, A6, c6, hq, rfl, HT, HS, HE, HB, HAT⟩ := hrel
            obtain ⟨sl, s32⟩ := blocks_ok' S0 T sl0 s320 q
            by_cases hlt : 0 < L3
            · have h64 : 64 ≤ L3 := by omega
              have hl0 : (0 : Int) < (L3 : Int) := by omega
              go_wp2_with (with_reducible refine halt_op (some 50) (.load _ _) (fun K hK => ?_))
              refine go_on hK ?_; clear hK
              refine load_arr stateT (l := up (Sh2.blocks q S0 T)) rfl (.tmp 5) rfl rfl (unhid HS) (by rw [up_len]; exact sl) ?_
              have HLq := (unhid HL).below (unhid HE) (by omega)
              have hcall := block_any (Sh2.blocks q S0 T) (T.drop (64 * q)) A6 L3 c6 wr.heap.size wr sl s32 (unhid HT).row (Nat.le_refl _) (B8.drop T8.out _) h64 (by omega) HLq (by have := (unhid HS).lt'; omega)
              have HCALL := hid hcall
              have hsq := (unhid HS).lt'
              clear hcall HLq
              go_wp2_with fail
              refine (unhid HCALL).mono ?_
              rintro e w8 ⟨rfl, hb8⟩
              rw [← blocks_snoc]
              have HB8 := hid hb8
              clear hb8 HCALL
              obtain ⟨sl2, _⟩ := blocks_ok' S0 T sl0 s320 (q + 1)
              go_wp2_with (with_reducible refine halt_op none (.store _ _ _) (fun K hK => ?_))
              refine go_on hK ?_; clear hK
              refine store_arr stateT (l := up (Sh2.blocks (q + 1) S0 T)) rfl (.tmp 5) (.tmp 52) rfl rfl rfl (by rw [up_len]; exact sl2) ((unhid HS).below (unhid HB8) hsq) (by rw [cellsOf_size, up_len]; exact sl) ?_
              intro w9 b9 g9
              have k9 : Kept (fun j => j = gs) wr w9 := (Kept.of_below (unhid HB8) (Nat.le_refl _)).trans (Kept.of_grown g9) (fun j _ h => by injection h with h; exact h.symm)
              have hsd := (unhid HB).lt'
              have B9 := hid ((unhid HB).kept k9 (by omega))
              have E9 := hid ((unhid HE).trans (k9.below (by have := (unhid HE).size; omega) (fun j hj h => by omega)))
              have T9 := (unhid HT).kept k9 (fun g hg h => by have := HA5.out g (by rw [← HAT.out]; exact hg); omega)
              have S9 := hid b9
              clear b9 g9 k9 HS HE HB HB8 HT
              go_frame
              go_wp2_with (with_reducible refine halt_op (some 49) (.slice _ _ _ _ _) (fun K hK => ?_))
              refine go_on hK ?_; clear hK
              refine cut_tail bytesE rfl (.tmp 48) (.const (.int .i64 64)) rfl rfl (kk := .i64) (i := 64) rfl T9 h64 ?_
              intro A7 hA7 t10
              have T10 := hid t10
              clear t10 T9
              rw [← bytes_drop, List.drop_drop, show 64 * q + 64 = 64 * (q + 1) by omega] at T10
              go_wp2_with fail
              go_roundw
              case rel => exact ⟨q + 1, L3 - 64, A7, c6 - 64, by omega, rfl, T10, S9, E9, B9, hid (hA7.trans HAT.out)⟩
              case measure => simp; omega
            · have h0 : L3 = 0 := by omega
              subst h0
              have hq64 : q = T.length / 64 := by rw [HTL.out]; omega
              have HSUM2 : Hid (Sh2.sum m = Sh2.out (Sh2.blocks q S0 T)) := by rw [hq64]; exact HSUM.out
              generalize Sh2.blocks q S0 T = S at sl s32 HS HSUM2
              have SL := hid sl
              clear HT HAT HSUM hq64 sl
              go_wp2_with (with_reducible refine halt_op (some 53) (.load _ _) (fun K hK => ?_))
              refine go_on hK ?_; clear hK
              refine load_arr stateT (l := up S) rfl (.tmp 5) rfl rfl (unhid HS) (by rw [up_len]; exact SL.out) ?_
              go_wp2_with fail
              go_loopw [54] (fun v54 wr => ∃ i : Nat, i ≤ 8 ∧ v54 = .int .i64 i ∧ Hid (Blk wr gd 23 (cellsOf .u8 (up ((Sh2.out S).take (4 * i) ++ (List.replicate 32 0).drop (4 * i))))) ∧ Hid (Below w.heap.size w wr)) (fun v54 _ => 8 - (intOf v54).toNat)
              case atStart => exact ⟨0, Nat.zero_le _, rfl, by rw [Nat.mul_zero, List.take_zero, List.drop_zero, List.nil_append, up_replicate]; exact HB, HE⟩
              case round =>
                obtain ⟨i, hi, rfl, HB, HE⟩ := hrel
                by_cases hlt : i < 8
                · obtain ⟨x, hx⟩ : ∃ x, S[i]? = some x := ⟨_, List.getElem?_eq_getElem (by rw [SL.out]; exact hlt)⟩
                  have hxi : (up S)[i]? = some (x : Int) := by rw [up_get, hx]; rfl
                  have hx32 : x < 4294967296 := s32 x (List.mem_of_getElem? hx)
                  have HX := hid hx; have HXI := hid hxi
                  clear hx hxi
                  go_wp2_with (with_reducible refine halt_op (some 57) (.index _ _ _) (fun K hK => ?_))
                  refine go_on hK ?_; clear hK
                  refine index_int stateT rfl (.tmp 53) (.tmp 54) rfl rfl rfl hlt HXI.out ?_
                  go_wp2_with fail
                  go_loopw [58] (fun v58 wr => ∃ k : Nat, k ≤ 4 ∧ v58 = .int .i64 k ∧ Hid (Blk wr gd 23 (cellsOf .u8 (up ((Sh2.out S).take (4 * i + k) ++ (List.replicate 32 0).drop (4 * i + k))))) ∧ Hid (Below w.heap.size w wr)) (fun v58 _ => 4 - (intOf v58).toNat)
                  case atStart => exact ⟨0, Nat.zero_le _, rfl, HB, HE⟩
                  case round =>
                    obtain ⟨k, hk, rfl, HB, HE⟩ := hrel
                    by_cases hk4 : k < 4
                    · have hz := out_get S i k x hlt hk4 HX.out
                      have hset := hid (patchN_set (Sh2.out_len S) (List.length_replicate (n := 32) (a := 0)) (show 4 * i + k < 32 by omega) hz)
                      have c1 : wr.cell? ⟨gd, 4 * i + k, none⟩ = some (.int .u8 0) := by
                        rw [(unhid HB).cell, cellsOf_get, up_get, patchN_at (Sh2.out_len S) (List.length_replicate (n := 32) (a := 0)) (show 4 * i + k < 32 by omega), List.getElem?_replicate, if_pos (by omega)]; rfl
                      have c3 : wr.frozen? ⟨gd, 4 * i + k, none⟩ = false := (unhid HB).free _
                      clear hz
                      have hk5 : k = 0 ∨ k = 1 ∨ k = 2 ∨ k = 3 := by omega
                      rcases hk5 with rfl | rfl | rfl | rfl
                      · have ev : (x : Int) / 16777216 = ((x / 2 ^ (24 - 8 * 0) % 256 : Nat) : Int) := by
                          have e : 2 ^ (24 - 8 * 0) = 16777216 := rfl
                          rw [e]; omega
                        simp only [Nat.add_zero] at c1 c3
                        have EV := hid ev; clear ev
                        go_wp2_with fail
                        go_roundw
                        case rel =>
                          refine ⟨1, by omega, rfl, ?_, (unhid HE).setCell hge _⟩
                          have := (unhid HB).put (4 * i + 0) (.int .u8 ((x / 2 ^ (24 - 8 * 0) % 256 : Nat) : Int))
                          rw [cellsOf_set, up_set, hset.out, ← EV.out] at this
                          exact this
                        case measure => simp [intOf]
                      · have ev : (x : Int) / 65536 % 256 = ((x / 2 ^ (24 - 8 * 1) % 256 : Nat) : Int) := by
                          have e : 2 ^ (24 - 8 * 1) = 65536 := rfl
                          rw [e]; omega
                        have EV := hid ev; clear ev
                        go_wp2_with fail
                        go_roundw
                        case rel =>
                          refine ⟨2, by omega, rfl, ?_, (unhid HE).setCell hge _⟩
                          have := (unhid HB).put (4 * i + 1) (.int .u8 ((x / 2 ^ (24 - 8 * 1) % 256 : Nat) : Int))
                          rw [cellsOf_set, up_set, hset.out, ← EV.out] at this
                          exact this
                        case measure => simp [intOf]
                      · have ev : (x : Int) / 256 % 256 = ((x / 2 ^ (24 - 8 * 2) % 256 : Nat) : Int) := by
                          have e : 2 ^ (24 - 8 * 2) = 256 := rfl
                          rw [e]; omega
                        have EV := hid ev; clear ev
                        go_wp2_with fail
                        go_roundw
                        case rel =>
                          refine ⟨3, by omega, rfl, ?_, (unhid HE).setCell hge _⟩
                          have := (unhid HB).put (4 * i + 2) (.int .u8 ((x / 2 ^ (24 - 8 * 2) % 256 : Nat) : Int))
                          rw [cellsOf_set, up_set, hset.out, ← EV.out] at this
                          exact this
                        case measure => simp [intOf]
                      · have ev : (x : Int) % 256 = ((x / 2 ^ (24 - 8 * 3) % 256 : Nat) : Int) := by
                          have e : 2 ^ (24 - 8 * 3) = 1 := rfl
                          rw [e]; omega
                        have EV := hid ev; clear ev
                        go_wp2_with fail
                        go_roundw
                        case rel =>
                          refine ⟨4, by omega, rfl, ?_, (unhid HE).setCell hge _⟩
                          have := (unhid HB).put (4 * i + 3) (.int .u8 ((x / 2 ^ (24 - 8 * 3) % 256 : Nat) : Int))
                          rw [cellsOf_set, up_set, hset.out, ← EV.out] at this
                          exact this
                        case measure => simp [intOf]
                    · have hk44 : k = 4 := by omega
                      subst hk44
                      go_wp2_with fail
                      go_roundw
                      case rel => exact ⟨i + 1, by omega, by go_num, by rw [show 4 * (i + 1) = 4 * i + 4 by omega]; exact HB, HE⟩
                      case measure => simp [intOf]; omega
                · have hi8 : i = 8 := by omega
                  subst hi8
                  have hall : (Sh2.out S).take (4 * 8) ++ (List.replicate 32 0).drop (4 * 8) = Sh2.sum m := by
                    rw [List.take_of_length_le (by rw [Sh2.out_len]; exact Nat.le_refl _), List.drop_of_length_le (by simp), List.append_nil, HSUM2.out]
                  rw [hall] at HB
                  clear hall
                  go_wp2_with (with_reducible refine halt_op (some 74) (.load _ _) (fun K hK => ?_))
                  refine go_on hK ?_; clear hK
                  refine load_arr digT (l := up (Sh2.sum m)) rfl (.tmp 2) rfl rfl (unhid HB) (sum_len_u m) ?_
                  refine store_arr digT (l := up (Sh2.sum m)) rfl (.tmp 2) (.tmp 74) rfl rfl rfl (sum_len_u m) (unhid HB) (by rw [cellsOf_size, sum_len_u]) ?_
                  intro w8 b8 g8
                  have B8' := hid b8; have E8 := hid ((unhid HE).grown g8 (unhid HE).size (fun q hq => by injection hq with hq; omega)); clear b8 g8
                  go_wp2
                  exact bodyPost_ret (results_cell_row rfl _ _ gd _ (cellsOf .u8 (up (Sh2.sum m))) (0, 0) _ rfl (unhid B8') digT.under rfl (by rw [cellsOf_size, sum_len_u]; exact digT.size)) rfl ⟨rfl, unhid E8⟩
end Go.Proofs.YtlaoijnlemgdfaaDoor
