/- Walks of sha.New, Hasher.Write. -/
import Derived.Test.YtlaoijnlemgdfaaDoorShaBlockW
import Derived.Test.YtlaoijnlemgdfaaDoorTail
namespace Go.Proofs.YtlaoijnlemgdfaaDoor
set_option linter.unusedVariables false
open Go.RowKit Go.Mny
/-- the cells of a Hasher -/
def hcells (s : List Nat) (rest : Value) (n : Nat) : Array Value := (up s).map (Value.int .u32) ++ [rest, .int .i64 n] |>.toArray
theorem bytesE : Elt Tryd.prog 24 5 1 1 := Elt.of Tryd.underlying24 (.int .u8 0) (by kernel_rfl) rfl (by decide)
theorem begin_any (w : World) : Calls Tryd.prog 57 #[] w fun e w' => e = .returned (.agg (cellsOf .u32 (up Sh2.H0))) ∧ Below w.heap.size w w' := by
  go_enter Tryd.func57, Tryd.ntmps57
  go_wp2_with (with_reducible refine halt_op (some 0) (.alloc _) (fun K hK => ?_))
  refine go_on hK ?_; clear hK
  refine alloc_arr stateT rfl rfl ?_
  rintro _ w1 rfl s1 b1 e1
  go_wp2_with (with_reducible refine halt_op none (.store _ _ _) (fun K hK => ?_))
  refine go_on hK ?_; clear hK
  refine store_arr stateT (l := up Sh2.H0) rfl (.tmp 0) (.tmp 1) rfl rfl rfl rfl b1 (by simp [cellsOf]) ?_
  intro w2 b2 g2
  have E2 := hid (Below.grown e1 g2 (by omega) (fun q hq => by injection hq with hq; omega))
  have B2 := hid b2
  clear b1 b2 e1 g2 s1
  go_wp2
  exact bodyPost_ret (results_cell_row rfl _ _ w.heap.size _ (cellsOf .u32 (up Sh2.H0)) (0, 0) _ rfl (unhid B2) stateT.under rfl (by rw [cellsOf_size, up_len]; exact stateT.size)) rfl ⟨rfl, unhid E2⟩
theorem new_any (w : World) : Calls Tryd.prog 47 #[] w fun e w' => ∃ g, e = .returned (.pointer (some ⟨g, 0, none⟩)) ∧ w.heap.size ≤ g ∧ w'.heap.size = g + 1 ∧ Blk w' g 102 (hcells Sh2.H0 (.slice none 0 0) 0) ∧ Below w.heap.size w w' := by
  go_enter Tryd.func47, Tryd.ntmps47
  go_wp2_with fail
  refine (begin_any _).mono ?_
  rintro e w1 ⟨rfl, hb⟩
  have HB := hid hb; clear hb
  go_wp2_with fail
  go_ret
  exact ⟨w1.heap.size, rfl, (unhid HB).size, by simp, Blk.new w1 102 (hcells Sh2.H0 (.slice none 0 0) 0), (unhid HB).alloc (unhid HB).size _⟩
theorem hcells_get (s : List Nat) (r : Value) (n : Nat) (hs : s.length = 8) : (hcells s r n)[8]? = some r ∧ (hcells s r n)[9]? = some (.int .i64 n) ∧ (hcells s r n).size = 10 := by
  obtain ⟨a, b, c, d, e, f, g, h, rfl⟩ := eight s hs
  exact ⟨rfl, rfl, rfl⟩
theorem hcells_set9 (s : List Nat) (r : Value) (n : Nat) (hs : s.length = 8) (k : Nat) : (hcells s r n).setIfInBounds 9 (.int .i64 k) = hcells s r k := by
  obtain ⟨a, b, c, d, e, f, g, h, rfl⟩ := eight s hs
  rfl
theorem hcells_set8 (s : List Nat) (r : Value) (n : Nat) (hs : s.length = 8) (v : Value) : (hcells s r n).setIfInBounds 8 v = hcells s v n := by
  obtain ⟨a, b, c, d, e, f, g, h, rfl⟩ := eight s hs
  rfl
theorem block_ok (s m : List Nat) (hs : s.length = 8) (h : B32 s) : (Sh2.block s m).length = 8 ∧ B32 (Sh2.block s m) := by
  obtain ⟨h1, h2⟩ := rounds_ok Sh2.K (Sh2.words m) s hs h 64
  refine ⟨by rw [Sh2.block, List.length_zipWith, h1, hs]; rfl, fun x hx => ?_⟩
  obtain ⟨i, hi, rfl⟩ := List.getElem_of_mem hx
  simp only [Sh2.block, List.getElem_zipWith]
  exact add_lt _ _
theorem blocks_snoc : ∀ (k : Nat) (s m : List Nat), Sh2.blocks (k + 1) s m = Sh2.block (Sh2.blocks k s m) (m.drop (64 * k))
  | 0, s, m => by simp [Sh2.blocks]
  | k + 1, s, m => by
    have := blocks_snoc k (Sh2.block s m) (m.drop 64)
    rw [List.drop_drop, show 64 + 64 * k = 64 * (k + 1) by omega] at this
    exact this
theorem H0_32 : B32 Sh2.H0 := by unfold B32; decide
theorem blocks_ok (m : List Nat) : ∀ k, (Sh2.blocks k Sh2.H0 m).length = 8 ∧ B32 (Sh2.blocks k Sh2.H0 m)
  | 0 => ⟨rfl, H0_32⟩
  | k + 1 => by rw [blocks_snoc]; exact block_ok _ _ (blocks_ok m k).1 (blocks_ok m k).2
theorem grown_set {w w' : World} {g : Nat} (h : w.grownBy w' (some g)) (i : Nat) (u : Value) : w.grownBy (w'.setCell ⟨g, i, none⟩ u) (some g) :=
  ⟨h.os, h.tape, h.output, by have := h.size; simpa [World.setCell] using this, fun j hj hne => (Below.heap_setCell _ _ _ _ (fun e => hne (by rw [e]))).trans (h.block j hj hne)⟩
theorem hcells_put8 (a b c d e f g h a1 b1 c1 d1 e1 f1 g1 h1 : Nat) (R : Value) (n : Nat) : (((((((((hcells [a, b, c, d, e, f, g, h] R n).setIfInBounds 0 (.int .u32 ((a1 : Nat) : Int))).setIfInBounds 1 (.int .u32 ((b1 : Nat) : Int))).setIfInBounds 2 (.int .u32 ((c1 : Nat) : Int))).setIfInBounds 3 (.int .u32 ((d1 : Nat) : Int))).setIfInBounds 4 (.int .u32 ((e1 : Nat) : Int))).setIfInBounds 5 (.int .u32 ((f1 : Nat) : Int))).setIfInBounds 6 (.int .u32 ((g1 : Nat) : Int))).setIfInBounds 7 (.int .u32 ((h1 : Nat) : Int))) = hcells [a1, b1, c1, d1, e1, f1, g1, h1] R n := by simp [hcells, up]
theorem put8 {w : World} {gh : Nat} {a b c d e f g h n : Nat} {R : Value} (h0 : Blk w gh 102 (hcells [a, b, c, d, e, f, g, h] R n)) (a1 b1 c1 d1 e1 f1 g1 h1 : Nat) :
    Blk ((((((((w.setCell ⟨gh, 0, none⟩ (.int .u32 ((a1 : Nat) : Int))).setCell ⟨gh, 1, none⟩ (.int .u32 ((b1 : Nat) : Int))).setCell ⟨gh, 2, none⟩ (.int .u32 ((c1 : Nat) : Int))).setCell ⟨gh, 3, none⟩ (.int .u32 ((d1 : Nat) : Int))).setCell ⟨gh, 4, none⟩ (.int .u32 ((e1 : Nat) : Int))).setCell ⟨gh, 5, none⟩ (.int .u32 ((f1 : Nat) : Int))).setCell ⟨gh, 6, none⟩ (.int .u32 ((g1 : Nat) : Int))).setCell ⟨gh, 7, none⟩ (.int .u32 ((h1 : Nat) : Int))) gh 102 (hcells [a1, b1, c1, d1, e1, f1, g1, h1] R n) ∧ w.grownBy ((((((((w.setCell ⟨gh, 0, none⟩ (.int .u32 ((a1 : Nat) : Int))).setCell ⟨gh, 1, none⟩ (.int .u32 ((b1 : Nat) : Int))).setCell ⟨gh, 2, none⟩ (.int .u32 ((c1 : Nat) : Int))).setCell ⟨gh, 3, none⟩ (.int .u32 ((d1 : Nat) : Int))).setCell ⟨gh, 4, none⟩ (.int .u32 ((e1 : Nat) : Int))).setCell ⟨gh, 5, none⟩ (.int .u32 ((f1 : Nat) : Int))).setCell ⟨gh, 6, none⟩ (.int .u32 ((g1 : Nat) : Int))).setCell ⟨gh, 7, none⟩ (.int .u32 ((h1 : Nat) : Int))) (some gh) := by
  refine ⟨?_, grown_set (grown_set (grown_set (grown_set (grown_set (grown_set (grown_set (grown_set (World.grownBy.refl w _) 0 _) 1 _) 2 _) 3 _) 4 _) 5 _) 6 _) 7 _⟩
  have := ((((((((h0.put 0 (.int .u32 ((a1 : Nat) : Int))).put 1 (.int .u32 ((b1 : Nat) : Int))).put 2 (.int .u32 ((c1 : Nat) : Int))).put 3 (.int .u32 ((d1 : Nat) : Int))).put 4 (.int .u32 ((e1 : Nat) : Int))).put 5 (.int .u32 ((f1 : Nat) : Int))).put 6 (.int .u32 ((g1 : Nat) : Int))).put 7 (.int .u32 ((h1 : Nat) : Int)))
  rw [hcells_put8] at this
  exact this
abbrev bytes (l : List Nat) : List Value := (up l).map (Value.int .u8)
theorem bytes_len (l : List Nat) : (bytes l).length = l.length := by simp [up]
theorem bytes_one (l : List Nat) : ∀ u ∈ bytes l, u.oneCell' = true := ints_one .u8 _
theorem bytes_append (l r : List Nat) : bytes (l ++ r) = bytes l ++ bytes r := by simp [bytes, up]
theorem bytes_drop (l : List Nat) (i : Nat) : bytes (l.drop i) = (bytes l).drop i := by simp [bytes, up, List.map_drop]
theorem bytes_take (l : List Nat) (i : Nat) : bytes (l.take i) = (bytes l).take i := by simp [bytes, up, List.map_take]
theorem Laid.kept {S : Nat → Prop} {w w' : World} (h : Laid w) (hk : Kept S w w') (hS : ¬ S 1) (h0 : 1 < w.heap.size) : Laid w' := fun j v hv => (World.cell?_of_block (a := ⟨1, 0 + j, none⟩) (hk.block 1 h0 hS)).trans (h j v hv)
/-- Block gh is a Hasher that has taken m; what is left over lies at A. -/
structure Hsh (w : World) (gh : Nat) (m : List Nat) (A : Option Addr) (c : Nat) : Prop where
  blk : Blk w gh 102 (hcells (Sh2.blocks (m.length / 64) Sh2.H0 m) (.slice A (m.length % 64) c) m.length)
  rest : Tail w (gh + 1) 5 A (m.length % 64) c (bytes (m.drop (64 * (m.length / 64))))
theorem Hsh.new {w : World} {gh : Nat} (h : Blk w gh 102 (hcells Sh2.H0 (.slice none 0 0) 0)) : Hsh w gh [] none 0 := ⟨h, Tail.none_ w _ _⟩
theorem Hsh.kept {S : Nat → Prop} {w w' : World} {gh : Nat} {m : List Nat} {A : Option Addr} {c : Nat} (h : Hsh w gh m A c) (hk : Kept S w w') (h1 : ¬ S gh) (h2 : ∀ q, at_ A = some q → ¬ S q) : Hsh w' gh m A c :=
  ⟨h.blk.kept hk h1, h.rest.kept hk h2⟩
theorem Hsh.at_ne {w : World} {gh : Nat} {m : List Nat} {A : Option Addr} {c : Nat} (h : Hsh w gh m A c) : ∀ q, at_ A = some q → gh < q ∧ q < w.heap.size := fun q hq => h.rest.from_ q hq
def lenAt (w : World) (g : Nat) : Nat := match w.cell? ⟨g, 8, none⟩ with | some (.slice _ q _) => q | _ => 0
theorem lenAt_of {w : World} {g n c : Nat} {A : Option Addr} (h : w.cell? ⟨g, 8, none⟩ = some (.slice A n c)) : lenAt w g = n := by unfold lenAt; rw [h]
def Wrote (gh : Nat) (M : List Nat) (A : Option Addr) (w : World) (e : Ending) (w' : World) : Prop :=
  e = .returned (.tuple #[]) ∧ ∃ A2 c2, Hsh w' gh M A2 c2 ∧ Kept (fun j => j = gh ∨ at_ A = some j) w w' ∧ ∀ q, at_ A2 = some q → at_ A = some q ∨ w.heap.size ≤ q
set_option maxHeartbeats 4000000 in
set_option maxRecDepth 100000 in
theorem write_any (gh : Nat) (m b : List Nat) (A A' : Option Addr) (c n c' D : Nat) (w : World) (H : Hsh w gh m A c) (hr : Row w D 1 A' n (bytes b)) (hD : D ≤ w.heap.size) (hne : ∀ q, at_ A' = some q → q < D → q ≠ gh)
    (hmn : m.length + n ≤ 140737488355000) (m8 : B8 (m ++ b)) (hL : Laid w) (h0 : 1 < gh) :
    Calls Tryd.prog 48 #[.pointer (some ⟨gh, 0, none⟩), .slice A' n c'] w (Wrote gh (m ++ b) A w) := by
  obtain ⟨hb, ht⟩ := H
  have hbl : b.length = n := by have := hr.len; rw [bytes_len] at this; omega
  have sl0 := (blocks_ok m (m.length / 64)).1
  have hne2 := fun q hq => (ht.from_ q hq)
  have EB : Sh2.blocks (m.length / 64) Sh2.H0 m = Sh2.blocks (m.length / 64) Sh2.H0 (m ++ b) := (Sh2.blocks_append _ _ _ _ (by omega)).symm
  have ED : bytes (m.drop (64 * (m.length / 64))) ++ bytes b = bytes ((m ++ b).drop (64 * (m.length / 64))) := by rw [List.drop_append_of_le_length (by omega), bytes_append]
  have EM : (m ++ b).length = m.length + n := by rw [List.length_append, hbl]
  obtain ⟨M, hM⟩ : ∃ M, m ++ b = M := ⟨_, rfl⟩
  rw [hM] at EB ED EM m8 ⊢
  rw [EB] at hb sl0
  obtain ⟨t, ht64⟩ : ∃ t, m.length = t := ⟨_, rfl⟩
  obtain ⟨q0, hq0⟩ : ∃ q0, m.length / 64 = q0 := ⟨_, rfl⟩
  obtain ⟨r0, hr0⟩ : ∃ r0, m.length % 64 = r0 := ⟨_, rfl⟩
  have htq : t = 64 * q0 + r0 := by omega
  rw [hq0, hr0, ht64] at hb
  rw [hq0, hr0] at ht
  rw [hq0] at ED sl0
  rw [ht64] at EM hmn
  have EDh := hid ED; have EMh := hid EM
  clear EB ED EM hM ht64 hq0 hr0 hbl
  have c8 : w.cell? ⟨gh, 8, none⟩ = some (.slice A r0 c) := by rw [hb.cell, (hcells_get _ _ _ sl0).1]
  have c9 : w.cell? ⟨gh, 9, none⟩ = some (.int .i64 t) := by rw [hb.cell, (hcells_get _ _ _ sl0).2.1]
  have f8 : w.frozen? ⟨gh, 8, none⟩ = false := hb.free 8
  have f9 : w.frozen? ⟨gh, 9, none⟩ = false := hb.free 9
  have HB := hid hb; have HT := hid ht; have HR := hid hr; have HL := hid hL; have M8 := hid m8; have SL0 := hid sl0; have HQ := hid htq
  clear hb ht hr hL m8 sl0 htq
  have K0 := Kept.set (Kept.refl (fun j => j = gh) w) ⟨gh, 9, none⟩ (fun _ => rfl) (.int .i64 ((t : Int) + (n : Int)))
  have K0h := hid K0; clear K0
  have hgA : ∀ q, at_ A = some q → q ≠ gh := fun q h e => by have := hne2 q h; omega
  go_enter Tryd.func48, Tryd.ntmps48
  go_wp2_with (at_builtin; refine halt_at (fun K hK => ?_))
  refine go_on hK ?_; clear hK
  refine app_tail bytesE rfl (.tmp 17) (.tmp 18) rfl rfl ((unhid HT).kept (unhid K0h) hgA) (bytes_one _) rfl ((unhid HR).kept hD (unhid K0h) (fun q h hd => hne q h hd)) (bytes_one b) (by simp [maxLen]; have := HQ.out; omega) (by have := HQ.out; omega) (by have := (unhid HB).lt'; have := (unhid K0h).size; omega) ?_
  intro A2 c2 w2 o2 g2 l2
  have b1 : Blk (w.setCell ⟨gh, 9, none⟩ (.int .i64 ((t : Int) + (n : Int)))) gh 102 (hcells (Sh2.blocks q0 Sh2.H0 M) (.slice A r0 c) (t + n)) := by
    have := (unhid HB).put 9 (.int .i64 ((t + n : Nat) : Int))
    rw [hcells_set9 _ _ _ SL0.out] at this
    exact this
  have b2 := b1.kept (Kept.of_grown g2) (fun e => hgA gh e rfl)
  have K2 : Kept (fun j => j = gh ∨ at_ A = some j) w w2 := ((unhid K0h).weak (fun j _ h => .inl h)).trans (Kept.of_grown g2) (fun j _ h => .inr h)
  rw [EDh.out] at o2
  have d8 : w2.cell? ⟨gh, 8, none⟩ = some (.slice A r0 c) := by rw [b2.cell, (hcells_get _ _ _ SL0.out).1]
  have d8f : w2.frozen? ⟨gh, 8, none⟩ = false := b2.free 8
  have hA2 : ∀ q, at_ A2 = some q → (at_ A = some q ∨ w.heap.size ≤ q) ∧ q ≠ gh := by
    intro q h
    rcases l2 with l2 | l2
    · rw [l2] at h; exact ⟨.inl h, hgA q h⟩
    · rw [l2] at h; injection h with h
      have := (unhid K0h).size; have := (unhid HB).lt'
      exact ⟨.inr (by omega), by omega⟩
  have HB2 := hid b2; have HK2 := hid K2; have HO2 := hid o2; have HA2 := hid hA2
  have hsz : gh < w2.heap.size := b2.lt'
  have HA0 : Hid (at_ A = some 1 → gh < 1) := fun h => (hne2 1 h).1
  have HW : Hid (gh < w.heap.size) := (unhid HB).lt'
  clear b1 b2 K2 o2 g2 l2 c8 c9 f8 f9 hA2 hne hne2 hgA HB HT HR K0h
  go_wp2_with fail
  have b3 := (unhid HB2).put 8 (.slice A2 (r0 + n) c2)
  rw [hcells_set8 _ _ _ SL0.out] at b3
  have HB3 := hid b3
  have HK3 := hid ((unhid HK2).set ⟨gh, 8, none⟩ (fun _ => .inl rfl) (.slice A2 (r0 + n) c2))
  have HT3 := hid ((unhid HO2).kept (Kept.set (Kept.refl (fun j => j = gh) w2) ⟨gh, 8, none⟩ (fun _ => rfl) (.slice A2 (r0 + n) c2)) (fun q h => (HA2.out q h).2))
  clear b3 d8 d8f HB2 HK2 HO2
  have ern : r0 + n = t + n - 64 * q0 := by have := HQ.out; omega
  rw [ern] at HB3 HT3
  have ERN := hid ern; clear ern
  go_loopw [22] (fun _ wr => ∃ (k : Nat) (A3 : Option Addr) (c3 : Nat), 64 * k ≤ t + n ∧ Hid (Blk wr gh 102 (hcells (Sh2.blocks k Sh2.H0 M) (.slice A3 (t + n - 64 * k) c3) (t + n))) ∧ Hid (Tail wr (gh + 1) 5 A3 (t + n - 64 * k) c3 (bytes (M.drop (64 * k)))) ∧ Hid (at_ A3 = at_ A2) ∧ Hid (Kept (fun j => j = gh ∨ at_ A = some j) w wr)) (fun _ wr => lenAt wr gh)
  case atStart => exact ⟨q0, A2, c2, by have := HQ.out; omega, by simpa [ERN.out] using HB3, by simpa [ERN.out] using HT3, hid rfl, by simpa [ERN.out] using HK3⟩
  case round =>
    obtain ⟨k, A3, c3, hk, HB, HT, HA3, HK⟩ := hrel
    obtain ⟨sl, s32⟩ := blocks_ok M k
    have c8 : wr.cell? ⟨gh, 8, none⟩ = some (.slice A3 (t + n - 64 * k) c3) := by rw [(unhid HB).cell, (hcells_get _ _ _ sl).1]
    by_cases hlt : 64 ≤ t + n - 64 * k
    · have hge : (64 : Int) ≤ ((t + n - 64 * k : Nat) : Int) := by omega
      have hst := blocks_snoc k Sh2.H0 M
      generalize Sh2.blocks k Sh2.H0 M = v at *
      have f0 : ∀ i, wr.frozen? ⟨gh, i, none⟩ = false := fun i => (unhid HB).free i
      obtain ⟨a, b, c', d, e, f, g, h, rfl⟩ := eight v sl
      have k0 : wr.cell? ⟨gh, 0, none⟩ = some (.int .u32 (a : Nat)) := by rw [(unhid HB).cell]; rfl
      have k1 : wr.cell? ⟨gh, 1, none⟩ = some (.int .u32 (b : Nat)) := by rw [(unhid HB).cell]; rfl
      have k2 : wr.cell? ⟨gh, 2, none⟩ = some (.int .u32 (c' : Nat)) := by rw [(unhid HB).cell]; rfl
      have k3 : wr.cell? ⟨gh, 3, none⟩ = some (.int .u32 (d : Nat)) := by rw [(unhid HB).cell]; rfl
      have k4 : wr.cell? ⟨gh, 4, none⟩ = some (.int .u32 (e : Nat)) := by rw [(unhid HB).cell]; rfl
      have k5 : wr.cell? ⟨gh, 5, none⟩ = some (.int .u32 (f : Nat)) := by rw [(unhid HB).cell]; rfl
      have k6 : wr.cell? ⟨gh, 6, none⟩ = some (.int .u32 (g : Nat)) := by rw [(unhid HB).cell]; rfl
      have k7 : wr.cell? ⟨gh, 7, none⟩ = some (.int .u32 (h : Nat)) := by rw [(unhid HB).cell]; rfl
      have HS0 : Hid (∀ w' : World, Below wr.heap.size wr w' → (fun w' => w'.cell? ⟨gh, 0, none⟩ = some (.int .u32 (a : Nat)) ∧ w'.cell? ⟨gh, 1, none⟩ = some (.int .u32 (b : Nat)) ∧ w'.cell? ⟨gh, 2, none⟩ = some (.int .u32 (c' : Nat)) ∧ w'.cell? ⟨gh, 3, none⟩ = some (.int .u32 (d : Nat)) ∧ w'.cell? ⟨gh, 4, none⟩ = some (.int .u32 (e : Nat)) ∧ w'.cell? ⟨gh, 5, none⟩ = some (.int .u32 (f : Nat)) ∧ w'.cell? ⟨gh, 6, none⟩ = some (.int .u32 (g : Nat)) ∧ w'.cell? ⟨gh, 7, none⟩ = some (.int .u32 (h : Nat)) ∧ w'.cell? ⟨gh, 8, none⟩ = some (.slice A3 (t + n - 64 * k) c3) ∧ w'.frozen? ⟨gh, 0, none⟩ = false ∧ w'.frozen? ⟨gh, 1, none⟩ = false ∧ w'.frozen? ⟨gh, 2, none⟩ = false ∧ w'.frozen? ⟨gh, 3, none⟩ = false ∧ w'.frozen? ⟨gh, 4, none⟩ = false ∧ w'.frozen? ⟨gh, 5, none⟩ = false ∧ w'.frozen? ⟨gh, 6, none⟩ = false ∧ w'.frozen? ⟨gh, 7, none⟩ = false) w') := fun w' hb => by
        have hl := (unhid HB).lt'
        refine ⟨?_, ?_, ?_, ?_, ?_, ?_, ?_, ?_, ?_, ?_, ?_, ?_, ?_, ?_, ?_, ?_, ?_⟩
        · rw [hb.cell hl]; exact k0
        · rw [hb.cell hl]; exact k1
        · rw [hb.cell hl]; exact k2
        · rw [hb.cell hl]; exact k3
        · rw [hb.cell hl]; exact k4
        · rw [hb.cell hl]; exact k5
        · rw [hb.cell hl]; exact k6
        · rw [hb.cell hl]; exact k7
        · rw [hb.cell hl]; exact c8
        all_goals (rw [hb.frozen hl]; exact f0 _)
      have HC : Hid (∀ w' : World, w' = wr.drew → Calls Tryd.prog 58 #[.agg #[.int .u32 (a : Nat), .int .u32 (b : Nat), .int .u32 (c' : Nat), .int .u32 (d : Nat), .int .u32 (e : Nat), .int .u32 (f : Nat), .int .u32 (g : Nat), .int .u32 (h : Nat)], .slice A3 (t + n - 64 * k) c3] w' fun ex w'' => ex = .returned (.agg (cellsOf .u32 (up (Sh2.block [a, b, c', d, e, f, g, h] (M.drop (64 * k)))))) ∧ Below wr.heap.size wr w'') := fun w' hw => by
        subst hw
        have hL := Laid.kept (unhid HL) (unhid HK) (fun h => h.elim (fun h => by omega) (fun h => absurd (HA0.out h) (by omega))) (by have := HW.out; omega)
        have := block_any [a, b, c', d, e, f, g, h] (M.drop (64 * k)) A3 (t + n - 64 * k) c3 wr.heap.size wr.drew sl s32 (unhid HT).row.drew (Nat.le_refl _) (fun x hx => M8.out x (List.mem_of_mem_drop hx)) hlt (by omega) hL (by have := (unhid HB).lt'; show 1 < wr.heap.size; omega)
        exact this.mono fun ex w'' ⟨g1, g2⟩ => ⟨g1, ((Below.refl wr.heap.size wr).drew).trans g2⟩
      obtain ⟨r, hr⟩ : ∃ r, Sh2.block [a, b, c', d, e, f, g, h] (M.drop (64 * k)) = r := ⟨_, rfl⟩
      have hrl := block_ok _ (M.drop (64 * k)) sl s32
      rw [hr] at hrl HC
      obtain ⟨a1, b1, c1, d1, e1, f1, g1, h1, rfl⟩ := eight r hrl.1
      change Hid (∀ w' : World, w' = wr.drew → Calls _ _ _ w' fun ex w'' => ex = .returned (.agg #[.int .u32 (a1 : Nat), .int .u32 (b1 : Nat), .int .u32 (c1 : Nat), .int .u32 (d1 : Nat), .int .u32 (e1 : Nat), .int .u32 (f1 : Nat), .int .u32 (g1 : Nat), .int .u32 (h1 : Nat)]) ∧ _) at HC
      have HRR := hid hr; have HRL := hid hrl.2
      clear hr hrl
      have S1 := unhid HS0 wr.drew (Below.refl _ _).drew
      clear k0 k1 k2 k3 k4 k5 k6 k7 f0
      go_wp2_with fail
      obtain ⟨z0, z1, z2, z3, z4, z5, z6, z7, z8, y0, y1, y2, y3, y4, y5, y6, y7⟩ := S1
      go_region_with (first | (go_at_call 58; refine (unhid HC _ rfl).mono ?_; rintro ex w' ⟨rfl, hb⟩; obtain ⟨q0, q1, q2, q3, q4, q5, q6, q7, q8, p0, p1, p2, p3, p4, p5, p6, p7⟩ := unhid HS0 w' hb))
      all_goals
        have b0 := (unhid HB).below hb (unhid HB).lt'
        obtain ⟨b8, g8⟩ := put8 b0 a1 b1 c1 d1 e1 f1 g1 h1
        generalize ((((((((w'.setCell ⟨gh, 0, none⟩ (.int .u32 (a1 : Nat))).setCell ⟨gh, 1, none⟩ (.int .u32 (b1 : Nat))).setCell ⟨gh, 2, none⟩ (.int .u32 (c1 : Nat))).setCell ⟨gh, 3, none⟩ (.int .u32 (d1 : Nat))).setCell ⟨gh, 4, none⟩ (.int .u32 (e1 : Nat))).setCell ⟨gh, 5, none⟩ (.int .u32 (f1 : Nat))).setCell ⟨gh, 6, none⟩ (.int .u32 (g1 : Nat))).setCell ⟨gh, 7, none⟩ (.int .u32 (h1 : Nat))) = w8 at b8 g8 ⊢
        have kw : Kept (fun j => j = gh) wr w' := Kept.of_below hb (Nat.le_refl _)
        have k8 : Kept (fun j => j = gh) wr w8 := kw.trans (Kept.of_grown g8) (fun j _ h => by injection h with h; exact h.symm)
        have HB8 := hid b8
        have HT8 := hid ((unhid HT).kept k8 (fun q h => (HA2.out q (by rw [← HA3.out]; exact h)).2))
        have HK8 := hid ((unhid HK).trans k8 (fun j _ h => .inl h))
        have q8' : w8.cell? ⟨gh, 8, none⟩ = some (.slice A3 (t + n - 64 * k) c3) := by rw [b8.cell]; rfl
        have f8' : w8.frozen? ⟨gh, 8, none⟩ = false := b8.free 8
        have HST := hid hst
        clear b0 b8 g8 q0 q1 q2 q3 q4 q5 q6 q7 q8 p0 p1 p2 p3 p4 p5 p6 p7 z0 z1 z2 z3 z4 z5 z6 z7 z8 y0 y1 y2 y3 y4 y5 y6 y7 HB HT HK HS0 HC hb kw k8 hst
        go_wp2_with (with_reducible refine halt_op (some 45) (.slice _ _ _ _ _) (fun K hK => ?_))
        refine go_on hK ?_; clear hK
        refine cut_tail bytesE rfl (.tmp 44) (.const (.int .i64 64)) rfl rfl (kk := .i64) (i := 64) rfl (unhid HT8) hlt ?_
        intro A4 hA4 HT9
        have HT9h := hid HT9; clear HT9
        go_wp2_with fail
        have e8 : t + n - 64 * k - 64 = t + n - 64 * (k + 1) := by omega
        have b9 := (unhid HB8).put 8 (.slice A4 (t + n - 64 * k - 64) (c3 - 64))
        rw [hcells_set8 _ _ _ rfl] at b9
        have k9 := (unhid HK8).set ⟨gh, 8, none⟩ (fun _ => .inl rfl) (.slice A4 (t + n - 64 * k - 64) (c3 - 64))
        have t9 := (unhid HT9h).kept (Kept.set (Kept.refl (fun j => j = gh) w8) ⟨gh, 8, none⟩ (fun _ => rfl) (.slice A4 (t + n - 64 * k - 64) (c3 - 64))) (fun q h => (HA2.out q (by rw [← HA3.out, ← hA4]; exact h)).2)
        have l9 := lenAt_of (b9.cell 8)
        generalize w8.setCell ⟨gh, 8, none⟩ (.slice A4 (t + n - 64 * k - 64) (c3 - 64)) = w9 at b9 k9 t9 l9 ⊢
        rw [e8] at b9 t9 l9
        rw [← bytes_drop, List.drop_drop, show 64 * k + 64 = 64 * (k + 1) by omega] at t9
        refine ⟨⟨k + 1, A4, c3 - 64, by omega, hid ?_, hid t9, hid (hA4.trans HA3.out), hid k9⟩, by rw [l9, lenAt_of c8]; omega⟩
        rw [HST.out, HRR.out]
        exact b9
    · have hkk : (t + n) / 64 = k := by omega
      have hkm : (t + n) % 64 = t + n - 64 * k := by omega
      go_wp2_with fail
      go_end0
      refine ⟨rfl, A3, c3, ⟨?_, ?_⟩, unhid HK, fun q h => (HA2.out q (by rw [← HA3.out]; exact h)).1⟩
      · rw [EMh.out, hkk, hkm]; exact unhid HB
      · rw [EMh.out, hkk, hkm]; exact unhid HT
end Go.Proofs.YtlaoijnlemgdfaaDoor
