/- The walks of the reference's Num, SizeBytes, SizeAt, Packed. -/
import Derived.Test.YtopddinpmiefjaaDoorPutW
import Derived.Test.YtopddinpmiefjaaDoorUnpackW
namespace Go.Proofs.YtopddinpmiefjaaDoor
set_option linter.unusedVariables false
open Go.RowKit Go.Mny
theorem val_go : ∀ (l : List Int) (a : Int), l.foldl (fun a x => a * 256 + x) a = a * 256 ^ l.length + Siz.val l
  | [], a => by simp [Siz.val]
  | x :: l, a => by
    have h1 := val_go l (a * 256 + x)
    have h2 := val_go l (0 * 256 + x)
    simp only [List.foldl_cons, Siz.val, List.length_cons] at h1 h2 ⊢
    rw [h1, h2, Int.pow_succ]
    have e : a * (256 ^ l.length * 256) = a * 256 * 256 ^ l.length := by rw [Int.mul_comm (256 ^ l.length) 256, Int.mul_assoc]
    rw [e]
    simp only [Int.zero_mul, Int.zero_add, Int.add_mul]
    omega
theorem val_cons (x : Int) (l : List Int) : Siz.val (x :: l) = x * 256 ^ l.length + Siz.val l := by
  have := val_go l (0 * 256 + x)
  simpa [Siz.val] using this
theorem bytes_take' {l : List Int} (h : Siz.Bytes l) (k : Nat) : Siz.Bytes (l.take k) := fun x hx => h x (List.mem_of_mem_take hx)
theorem val_take_bd {l : List Int} (h : Siz.Bytes l) (h8 : l.length ≤ 8) (hv : Siz.val l < 9223372036854775808) (k : Nat) : 0 ≤ Siz.val (l.take k) ∧ Siz.val (l.take k) < 9223372036854775808 := by
  have hb := val_bd (l.take k) (bytes_take' h k)
  refine ⟨hb.1, ?_⟩
  by_cases hk : (l.take k).length ≤ 7
  · have := pow256_le _ hk
    omega
  · have : l.take k = l := List.take_of_length_le (by rw [List.length_take] at hk; omega)
    rw [this]; exact hv
theorem head_lt {l : List Int} (h : Siz.Bytes l) (h8 : l.length = 8) (hv : Siz.val l < 9223372036854775808) {x : Int} (hx : l[0]? = some x) : x < 128 := by
  cases l with
  | nil => simp at hx
  | cons y r =>
    obtain rfl : y = x := by simpa using hx
    have hr : r.length = 7 := by simpa using h8
    have hb := val_bd r (fun z hz => h z (by simp [hz]))
    rw [val_cons, hr, show (256 : Int) ^ 7 = 72057594037927936 from rfl] at hv
    omega
theorem head_ge {l : List Int} (h : Siz.Bytes l) (h8 : l.length = 8) (hv : ¬ Siz.val l < 9223372036854775808) {x : Int} (hx : l[0]? = some x) : 128 ≤ x := by
  cases l with
  | nil => simp at hx
  | cons y r =>
    obtain rfl : y = x := by simpa using hx
    have hr : r.length = 7 := by simpa using h8
    have hb := val_bd r (fun z hz => h z (by simp [hz]))
    rw [hr, show (256 : Int) ^ 7 = 72057594037927936 from rfl] at hb
    rw [val_cons, hr, show (256 : Int) ^ 7 = 72057594037927936 from rfl] at hv
    omega
set_option maxHeartbeats 1000000 in
set_option maxRecDepth 100000 in
theorem rnum_ok (l : List Int) (A : Option Addr) (n c D : Nat) (w : World) (hr : Row w D 1 A n (l.map (Value.int .u8))) (hb : Siz.Bytes l) (h1 : 1 ≤ n) (h8 : n ≤ 8) (hv : Siz.val l < 9223372036854775808) :
    Calls Tryd.prog 27 #[.slice A n c] w fun e w' => e = .returned (.tuple #[.int .i64 (Siz.val l), .bool true]) ∧ w = w' := by
  have hl := hr.length
  obtain ⟨g, o, x0, rfl, hg, hx0, hc0⟩ := hr.int (i := 0) (by omega)
  rw [Nat.add_zero] at hc0
  have t1 : (1 : Int) ≤ (n : Int) := by omega
  have t2 : (n : Int) ≤ 8 := by omega
  have t3 : ((n : Int) == 0) = false := by simp; omega
  have hh : Hid (n = 8 → x0 < 128) := hid fun e => head_lt hb (by omega) hv hx0.out
  have HR := hid hr; have HB := hid hb; have HV := hid hv; have HL := hid hl
  clear hr hb hv hl
  go_enter Tryd.func27, Tryd.ntmps27
  by_cases e8 : n = 8
  case' pos =>
    have t4 := hh.out e8
    have t5 : ((n : Int) == 8) = true := by simp; omega
    clear e8
    go_wp2_with fail
  case' neg =>
    have t4 : ((n : Int) == 8) = false := by simp; omega
    clear e8
    go_wp2_with fail
  all_goals
    clear hc0
    go_loop [4, 5] (fun v4 v5 => ∃ k : Nat, k ≤ l.length ∧ v5 = .int .i64 k ∧ v4 = .int .i64 (Siz.val (l.take k))) (fun _ v5 => l.length - (intOf v5).toNat)
    case atStart => exact ⟨0, Nat.zero_le _, rfl, by simp [Siz.val]⟩
    case round =>
      obtain ⟨k, hk, rfl, rfl⟩ := hrel
      have hbd := val_take_bd HB.out (by rw [HL.out]; omega) HV.out k
      have hbd2 := val_take_bd HB.out (by rw [HL.out]; omega) HV.out (k + 1)
      have HL2 := HL.out
      by_cases hlt : k < l.length
      · obtain ⟨g', o', x, e, hg', hx, hcx⟩ := (unhid HR).int (i := k) (by omega)
        injection e with e; injection e with e1 e2; subst e1; subst e2
        have hs : Siz.val (l.take (k + 1)) = Siz.val (l.take k) * 256 + x := by rw [List.take_add_one, hx.out]; exact val_snoc _ _
        rw [hs] at hbd2
        have hxb := HB.out x (List.mem_of_getElem? hx.out)
        have HS := hid hs
        have i1 : (0 : Int) ≤ (k : Int) := by omega
        have i2 : (k : Int) < (n : Int) := by omega
        obtain ⟨v, hv⟩ : ∃ v, Siz.val (l.take k) = v := ⟨_, rfl⟩
        rw [hv] at hbd hbd2 HS
        rw [hv]
        clear hs hv HL2
        go_wp2_with fail
        go_round
        case rel => exact ⟨k + 1, by omega, by go_num, by rw [HS.out]⟩
        case measure => simp [intOf]; omega
      · have hkl : k = l.length := by omega
        have ht : l.take k = l := List.take_of_length_le (by omega)
        have i2 : ¬ (k : Int) < (n : Int) := by omega
        rw [ht]
        clear hbd hbd2 ht HL2
        go_wp2_with fail
        go_ret2
        exact ⟨rfl, rfl⟩
theorem rnum_no (l : List Int) (A : Option Addr) (n c D : Nat) (w : World) (hr : Row w D 1 A n (l.map (Value.int .u8))) (hb : Siz.Bytes l) (hn : n = 8) (hv : ¬ Siz.val l < 9223372036854775808) :
    Calls Tryd.prog 27 #[.slice A n c] w fun e w' => e = .returned (.tuple #[.int .i64 0, .bool false]) ∧ w = w' := by
  subst hn
  have hl := hr.length
  obtain ⟨g, o, x0, rfl, hg, hx0, hc0⟩ := hr.int (i := 0) (by omega)
  rw [Nat.add_zero] at hc0
  have t4 := head_ge hb hl hv hx0.out
  clear hr hb hv hl
  go_enter Tryd.func27, Tryd.ntmps27
  go_wp2_with fail
  go_ret2
  exact ⟨rfl, rfl⟩
set_option maxHeartbeats 1000000 in
set_option maxRecDepth 100000 in
theorem rsize_any (n : Int) (w : World) (h0 : 0 ≤ n) (h1 : n ≤ 9223372036854775807) :
    Calls Tryd.prog 15 #[.int .i64 n] w (Fresh w (Siz.ofN n)) := by
  by_cases hs : n < 253
  · have E := hid (show Siz.ofN n = [n] by unfold Siz.ofN; rw [if_pos hs])
    go_enter Tryd.func15, Tryd.ntmps15
    go_wp2_with fail
    go_ret
    rw [E.out]
    exact ⟨_, _, rfl, Own.lit_at w w.heap.size 5 1 1 w.heap.size _ ([n].map (Value.int .u8)) rfl (Nat.le_refl _) (by decide) rfl rfl, (Below.refl _ _).alloc (Nat.le_refl _) _⟩
  have key : ∃ (f : Int) (s : Nat), ((f = 253 ∧ s = 2 ∧ n ≤ 65535) ∨ (f = 254 ∧ s = 4 ∧ 65535 < n ∧ n ≤ 4294967295) ∨ (f = 255 ∧ s = 8 ∧ 4294967295 < n)) ∧ Siz.ofN n = f :: Siz.bytesOf s n := by
    rcases Siz.wide_cases n with h | ⟨_, h, hw⟩ | ⟨h, h', hw⟩ | ⟨h, hw⟩
    · omega
    · exact ⟨253, 2, .inl ⟨rfl, rfl, by omega⟩, by unfold Siz.ofN; rw [if_neg hs, if_pos h, hw]⟩
    · exact ⟨254, 4, .inr (.inl ⟨rfl, rfl, by omega, by omega⟩), by unfold Siz.ofN; rw [if_neg hs, if_neg (by omega), if_pos h', hw]⟩
    · exact ⟨255, 8, .inr (.inr ⟨rfl, rfl, by omega⟩), by unfold Siz.ofN; rw [if_neg hs, if_neg (by omega), if_neg (by omega), hw]⟩
  obtain ⟨f, s, hc, hof⟩ := key
  have HOF := hid hof
  clear hof
  have t0 : 253 ≤ n := by omega
  clear hs
  rcases hc with ⟨rfl, rfl, t1⟩ | ⟨rfl, rfl, t1, t2⟩ | ⟨rfl, rfl, t1⟩
  all_goals
    go_enter Tryd.func15, Tryd.ntmps15
    go_wp2_with fail
    refine (put_any n _ _ h0 h1 (by decide) (by decide)).mono ?_
    rintro e w1 ⟨g, rfl, o1, e1⟩
    have O1 := hid o1; have E1 := hid e1
    have R1 := hid (Row.of_own o1)
    have hz := e1.size
    have BL := hid (Siz.bytesOf_length 2 n); have BL4 := hid (Siz.bytesOf_length 4 n); have BL8 := hid (Siz.bytesOf_length 8 n)
    clear o1 e1
    go_wp2_with (at_builtin; refine halt_at (fun K hK => ?_))
    refine go_on hK ?_; clear hK
  · refine app_step bytesE rfl (.tmp 23) (.tmp 24) rfl rfl (Own.lit_at w1 w1.heap.size 5 1 1 w1.heap.size _ ([253].map (Value.int .u8)) rfl (Nat.le_refl _) (by decide) rfl rfl) rfl ((unhid R1).alloc (Nat.le_refl _) _) (ints_one _ _) (by decide) (by decide) (by simp) ?_
    intro A3 c3 w3 o3 g3 l3
    rw [← List.map_append, show [253] ++ Siz.bytesOf 2 n = Siz.ofN n from HOF.out.symm] at o3
    have E3 : Below w.heap.size w w3 := (((unhid E1).alloc hz _).grown g3 (by simp; omega) (fun q hq => by simp [at_] at hq; omega))
    have O3 := hid (o3.less hz); have F3 := hid E3
    have LEN : Hid ((Siz.ofN n).length = 1 + 2) := by show _ = _; rw [HOF.out, List.length_cons, BL.out]
    clear o3 g3 l3 E3
    go_wp2_with fail
    go_ret
    exact ⟨A3, c3, by rw [LEN.out]; rfl, by rw [LEN.out]; exact unhid O3, unhid F3⟩
  · refine app_step bytesE rfl (.tmp 23) (.tmp 24) rfl rfl (Own.lit_at w1 w1.heap.size 5 1 1 w1.heap.size _ ([254].map (Value.int .u8)) rfl (Nat.le_refl _) (by decide) rfl rfl) rfl ((unhid R1).alloc (Nat.le_refl _) _) (ints_one _ _) (by decide) (by decide) (by simp) ?_
    intro A3 c3 w3 o3 g3 l3
    rw [← List.map_append, show [254] ++ Siz.bytesOf 4 n = Siz.ofN n from HOF.out.symm] at o3
    have E3 : Below w.heap.size w w3 := (((unhid E1).alloc hz _).grown g3 (by simp; omega) (fun q hq => by simp [at_] at hq; omega))
    have O3 := hid (o3.less hz); have F3 := hid E3
    have LEN : Hid ((Siz.ofN n).length = 1 + 4) := by show _ = _; rw [HOF.out, List.length_cons, BL4.out]
    clear o3 g3 l3 E3
    go_wp2_with fail
    go_ret
    exact ⟨A3, c3, by rw [LEN.out]; rfl, by rw [LEN.out]; exact unhid O3, unhid F3⟩
  · refine app_step bytesE rfl (.tmp 23) (.tmp 24) rfl rfl (Own.lit_at w1 w1.heap.size 5 1 1 w1.heap.size _ ([255].map (Value.int .u8)) rfl (Nat.le_refl _) (by decide) rfl rfl) rfl ((unhid R1).alloc (Nat.le_refl _) _) (ints_one _ _) (by decide) (by decide) (by simp) ?_
    intro A3 c3 w3 o3 g3 l3
    rw [← List.map_append, show [255] ++ Siz.bytesOf 8 n = Siz.ofN n from HOF.out.symm] at o3
    have E3 : Below w.heap.size w w3 := (((unhid E1).alloc hz _).grown g3 (by simp; omega) (fun q hq => by simp [at_] at hq; omega))
    have O3 := hid (o3.less hz); have F3 := hid E3
    have LEN : Hid ((Siz.ofN n).length = 1 + 8) := by show _ = _; rw [HOF.out, List.length_cons, BL8.out]
    clear o3 g3 l3 E3
    go_wp2_with fail
    go_ret
    exact ⟨A3, c3, by rw [LEN.out]; rfl, by rw [LEN.out]; exact unhid O3, unhid F3⟩
end Go.Proofs.YtopddinpmiefjaaDoor
