/- Contracts of the reference's package field (caissonref02): Writer. -/
import Derived.Test.YtpkljdjdapgmjaaDoorFr
namespace Go.Proofs.YtpkljdjdapgmjaaDoor
open Go.RowKit
set_option linter.unusedVariables false
set_option linter.unusedSimpArgs false

theorem rget_c (v : Value) (bs : List UInt8) (i size : Nat) (w : World) (hb : RB w v bs) (h1 : 1 ≤ size) (h8 : size ≤ 8) (hi : i + size ≤ bs.length) :
    Calls Tryd.prog 57 #[v, .int .i64 i, .int .i64 size] w fun e w' => e = .returned (.tuple #[.int .u64 (nb ((bs.drop i).take size) : Nat), .int .i64 0]) ∧ w = w' := by
  obtain ⟨g, off, cap, rfl, hlc, hcm, hc⟩ := hb.open_pos (by omega)
  have e1 : ((size : Int) < 1) = False := by simp; omega
  have e2 : ((8 : Int) < size) = False := by simp; omega
  have e3 : ((bs.length : Int) - size < i) = False := by simp; omega
  go_enter Tryd.func57, Tryd.ntmps57
  go_wp2
  go_loop [8, 9] (fun n t => ∃ k : Nat, k ≤ size ∧ t = .int .i64 k ∧ n = .int .u64 (nb ((bs.drop i).take k) : Nat)) (fun _ t => size - (intOf t).toNat)
  case atStart => exact ⟨0, Nat.zero_le _, rfl, by simp [nb]⟩
  case round =>
    obtain ⟨k, hk, rfl, rfl⟩ := hrel
    by_cases hlt : k < size
    · have hck := hc (i + k) (by omega)
      have hn := nb_lt ((bs.drop i).take k)
      go_wp2
      go_round
      case rel =>
        refine ⟨k + 1, by omega, by go_num, ?_⟩
        have hl : k < (bs.drop i).length := by simp; omega
        have hle := pow256_le k (by omega)
        rw [take_snoc _ k hl, nb_snoc, List.getElem_drop]
        rw [List.length_take, List.length_drop, Nat.min_eq_left (by omega)] at hn
        rw [or_step _ _ (by omega)]
      case measure => simp [intOf]; omega
    · obtain rfl : k = size := by omega
      go_wp2
      go_ret2
      exact ⟨rfl, rfl⟩

set_option maxHeartbeats 1000000 in
theorem rwnum_c1 (S : List Nat) (p : Nat) (bs : List UInt8) (n : Int) (w : World) (hW : Wr 98 w S p bs 0)
    (hlo : -9223372036854775808 ≤ n) (hhi : n ≤ 9223372036854775807) (hfit : 1 < 8 → -(2 ^ (8 * 1 - 1) : Nat) ≤ n ∧ n < (2 ^ (8 * 1) : Nat)) (hl : bs.length + 8 ≤ lim) :
    Calls Tryd.prog 51 #[ptr p, .int .i64 1, .int .i64 n] w fun e w' => e = .returned (.tuple #[]) ∧ ∃ S', Wr 98 w' S' p (bs ++ be 1 (n % 18446744073709551616).toNat) 0 ∧ Upd S w w' ∧ ∀ x ∈ S', x ∈ S ∨ w.heap.size ≤ x := by
  have HW := Lib.hid hW
  obtain ⟨v, hB, hO, hne, hS⟩ := hW.ex
  have c1 := hB.cell 1 _ rfl
  have Hl := Lib.hid hl
  clear hl hB hO hne hW hS
  obtain ⟨hf1, hf2⟩ : -(2 ^ (8 * 1 - 1) : Nat) ≤ n ∧ n < (2 ^ (8 * 1) : Nat) := by
    rcases Nat.lt_or_ge 1 8 with hk | hk
    · exact hfit hk
    · simp only [Nat.reduceMul, Nat.reduceSub, Nat.reducePow]; omega
  simp only [Nat.reduceMul, Nat.reduceSub, Nat.reducePow] at hf1 hf2
  clear hfit
  obtain ⟨m, hm⟩ : ∃ m, m = (n % 18446744073709551616).toNat := ⟨_, rfl⟩
  rw [← hm]
  have Hm := Lib.hid hm
  clear hm
  go_enter Tryd.func51, Tryd.ntmps51
  go_wp2
  clear c1
  go_loopw [8] (fun t wr => ∃ (k : Nat) (S' : List Nat), k ≤ 1 ∧ t = .int .i64 (1 - 1 - (k : Int)) ∧ Wr 98 wr S' p (bs ++ (be 1 m).take k) 0 ∧ Upd S w wr ∧ (∀ x ∈ S', x ∈ S ∨ w.heap.size ≤ x)) (fun t _ => (intOf t + 1).toNat)
  case atStart => exact ⟨0, S, by omega, rfl, by simpa using HW.out, Upd.refl _ _, fun x hx => .inl hx⟩
  case round =>
    obtain ⟨k, S', hk, rfl, hW, hU, hS'⟩ := hrel
    have HU := Lib.hid hU
    have HS := Lib.hid hS'
    have HW' := Lib.hid hW
    clear hU hS'
    by_cases hlt : k < 1
    · obtain ⟨v', hB, hO, hne, hS⟩ := hW.ex
      have c0 := hB.cell 0 _ rfl
      have HB := Lib.hid hB
      have HO := Lib.hid hO
      have Hne := Lib.hid hne
      have HSe := Lib.hid hS
      obtain ⟨L, hL⟩ : ∃ L, L = bs ++ (be 1 m).take k := ⟨_, rfl⟩
      obtain ⟨c, hc⟩ : ∃ c, c = bb m (1 - 1 - k) := ⟨_, rfl⟩
      have HL := Lib.hid hL
      have Hc := Lib.hid hc
      rw [← hL] at HO
      clear hB hO hne hS hW hL hc
      go_wp2_with (at_builtin; refine wpList_appB rfl (.tmp 57) (.tmp 64) rfl 0 _ L rfl ?q1 _ [c] rfl ?q2 ?q3 ?q4 ?_)
      case q1 => exact HO.out.upd0 ((Upd.refl _ _).alloc _)
      case q2 =>
        have hb := byte_shift n (1 - 1 - k) (by omega)
        rw [← Hm.out, ← Hc.out] at hb
        exact rb_one _ _ _ _ (by simpa using hb)
      case q3 => have := Hl.out; rw [HL.out]; simp [be_length]; omega
      case q4 => exact Nat.zero_le _
      intro A n2 cap w2 h1
      have c2 := (h1.blk (HB.out.alloc _) Hne.out).cell 0 _ rfl
      have f2 := (h1.blk (HB.out.alloc _) Hne.out).free 0
      go_wp2
      go_roundw
      case rel =>
        obtain ⟨S2, g1, g2, g3⟩ := wr_put HB.out Hne.out ((Upd.refl _ _).alloc _) h1
        refine ⟨k + 1, S2, by omega, by go_num, ?_, ?_, ?_⟩
        · rw [take_snoc _ k (by rw [be_length]; omega), be_getElem, ← List.append_assoc]
          rw [HL.out, Hc.out] at g1
          exact g1
        · exact HU.out.trans' g2 (fun x hx => HS.out x (by rw [HSe.out]; exact hx))
        · intro x hx
          have := HU.out.size
          rcases g3 x hx with h | h
          · exact HS.out x (by rw [HSe.out]; exact h)
          · right; omega
      case measure => simp [intOf]; omega
    · obtain rfl : k = 1 := by omega
      clear hW
      go_wp2
      go_end0
      refine ⟨rfl, S', ?_, HU.out, HS.out⟩
      have := HW'.out
      rwa [List.take_of_length_le (by simp [be_length])] at this
set_option maxHeartbeats 1000000 in
theorem rwnum_c2 (S : List Nat) (p : Nat) (bs : List UInt8) (n : Int) (w : World) (hW : Wr 98 w S p bs 0)
    (hlo : -9223372036854775808 ≤ n) (hhi : n ≤ 9223372036854775807) (hfit : 2 < 8 → -(2 ^ (8 * 2 - 1) : Nat) ≤ n ∧ n < (2 ^ (8 * 2) : Nat)) (hl : bs.length + 8 ≤ lim) :
    Calls Tryd.prog 51 #[ptr p, .int .i64 2, .int .i64 n] w fun e w' => e = .returned (.tuple #[]) ∧ ∃ S', Wr 98 w' S' p (bs ++ be 2 (n % 18446744073709551616).toNat) 0 ∧ Upd S w w' ∧ ∀ x ∈ S', x ∈ S ∨ w.heap.size ≤ x := by
  have HW := Lib.hid hW
  obtain ⟨v, hB, hO, hne, hS⟩ := hW.ex
  have c1 := hB.cell 1 _ rfl
  have Hl := Lib.hid hl
  clear hl hB hO hne hW hS
  obtain ⟨hf1, hf2⟩ : -(2 ^ (8 * 2 - 1) : Nat) ≤ n ∧ n < (2 ^ (8 * 2) : Nat) := by
    rcases Nat.lt_or_ge 2 8 with hk | hk
    · exact hfit hk
    · simp only [Nat.reduceMul, Nat.reduceSub, Nat.reducePow]; omega
  simp only [Nat.reduceMul, Nat.reduceSub, Nat.reducePow] at hf1 hf2
  clear hfit
  obtain ⟨m, hm⟩ : ∃ m, m = (n % 18446744073709551616).toNat := ⟨_, rfl⟩
  rw [← hm]
  have Hm := Lib.hid hm
  clear hm
  go_enter Tryd.func51, Tryd.ntmps51
  go_wp2
  clear c1
  go_loopw [8] (fun t wr => ∃ (k : Nat) (S' : List Nat), k ≤ 2 ∧ t = .int .i64 (2 - 1 - (k : Int)) ∧ Wr 98 wr S' p (bs ++ (be 2 m).take k) 0 ∧ Upd S w wr ∧ (∀ x ∈ S', x ∈ S ∨ w.heap.size ≤ x)) (fun t _ => (intOf t + 1).toNat)
  case atStart => exact ⟨0, S, by omega, rfl, by simpa using HW.out, Upd.refl _ _, fun x hx => .inl hx⟩
  case round =>
    obtain ⟨k, S', hk, rfl, hW, hU, hS'⟩ := hrel
    have HU := Lib.hid hU
    have HS := Lib.hid hS'
    have HW' := Lib.hid hW
    clear hU hS'
    by_cases hlt : k < 2
    · obtain ⟨v', hB, hO, hne, hS⟩ := hW.ex
      have c0 := hB.cell 0 _ rfl
      have HB := Lib.hid hB
      have HO := Lib.hid hO
      have Hne := Lib.hid hne
      have HSe := Lib.hid hS
      obtain ⟨L, hL⟩ : ∃ L, L = bs ++ (be 2 m).take k := ⟨_, rfl⟩
      obtain ⟨c, hc⟩ : ∃ c, c = bb m (2 - 1 - k) := ⟨_, rfl⟩
      have HL := Lib.hid hL
      have Hc := Lib.hid hc
      rw [← hL] at HO
      clear hB hO hne hS hW hL hc
      go_wp2_with (at_builtin; refine wpList_appB rfl (.tmp 57) (.tmp 64) rfl 0 _ L rfl ?q1 _ [c] rfl ?q2 ?q3 ?q4 ?_)
      case q1 => exact HO.out.upd0 ((Upd.refl _ _).alloc _)
      case q2 =>
        have hb := byte_shift n (2 - 1 - k) (by omega)
        rw [← Hm.out, ← Hc.out] at hb
        exact rb_one _ _ _ _ (by simpa using hb)
      case q3 => have := Hl.out; rw [HL.out]; simp [be_length]; omega
      case q4 => exact Nat.zero_le _
      intro A n2 cap w2 h1
      have c2 := (h1.blk (HB.out.alloc _) Hne.out).cell 0 _ rfl
      have f2 := (h1.blk (HB.out.alloc _) Hne.out).free 0
      go_wp2
      go_roundw
      case rel =>
        obtain ⟨S2, g1, g2, g3⟩ := wr_put HB.out Hne.out ((Upd.refl _ _).alloc _) h1
        refine ⟨k + 1, S2, by omega, by go_num, ?_, ?_, ?_⟩
        · rw [take_snoc _ k (by rw [be_length]; omega), be_getElem, ← List.append_assoc]
          rw [HL.out, Hc.out] at g1
          exact g1
        · exact HU.out.trans' g2 (fun x hx => HS.out x (by rw [HSe.out]; exact hx))
        · intro x hx
          have := HU.out.size
          rcases g3 x hx with h | h
          · exact HS.out x (by rw [HSe.out]; exact h)
          · right; omega
      case measure => simp [intOf]; omega
    · obtain rfl : k = 2 := by omega
      clear hW
      go_wp2
      go_end0
      refine ⟨rfl, S', ?_, HU.out, HS.out⟩
      have := HW'.out
      rwa [List.take_of_length_le (by simp [be_length])] at this
set_option maxHeartbeats 1000000 in
theorem rwnum_c4 (S : List Nat) (p : Nat) (bs : List UInt8) (n : Int) (w : World) (hW : Wr 98 w S p bs 0)
    (hlo : -9223372036854775808 ≤ n) (hhi : n ≤ 9223372036854775807) (hfit : 4 < 8 → -(2 ^ (8 * 4 - 1) : Nat) ≤ n ∧ n < (2 ^ (8 * 4) : Nat)) (hl : bs.length + 8 ≤ lim) :
    Calls Tryd.prog 51 #[ptr p, .int .i64 4, .int .i64 n] w fun e w' => e = .returned (.tuple #[]) ∧ ∃ S', Wr 98 w' S' p (bs ++ be 4 (n % 18446744073709551616).toNat) 0 ∧ Upd S w w' ∧ ∀ x ∈ S', x ∈ S ∨ w.heap.size ≤ x := by
  have HW := Lib.hid hW
  obtain ⟨v, hB, hO, hne, hS⟩ := hW.ex
  have c1 := hB.cell 1 _ rfl
  have Hl := Lib.hid hl
  clear hl hB hO hne hW hS
  obtain ⟨hf1, hf2⟩ : -(2 ^ (8 * 4 - 1) : Nat) ≤ n ∧ n < (2 ^ (8 * 4) : Nat) := by
    rcases Nat.lt_or_ge 4 8 with hk | hk
    · exact hfit hk
    · simp only [Nat.reduceMul, Nat.reduceSub, Nat.reducePow]; omega
  simp only [Nat.reduceMul, Nat.reduceSub, Nat.reducePow] at hf1 hf2
  clear hfit
  obtain ⟨m, hm⟩ : ∃ m, m = (n % 18446744073709551616).toNat := ⟨_, rfl⟩
  rw [← hm]
  have Hm := Lib.hid hm
  clear hm
  go_enter Tryd.func51, Tryd.ntmps51
  go_wp2
  clear c1
  go_loopw [8] (fun t wr => ∃ (k : Nat) (S' : List Nat), k ≤ 4 ∧ t = .int .i64 (4 - 1 - (k : Int)) ∧ Wr 98 wr S' p (bs ++ (be 4 m).take k) 0 ∧ Upd S w wr ∧ (∀ x ∈ S', x ∈ S ∨ w.heap.size ≤ x)) (fun t _ => (intOf t + 1).toNat)
  case atStart => exact ⟨0, S, by omega, rfl, by simpa using HW.out, Upd.refl _ _, fun x hx => .inl hx⟩
  case round =>
    obtain ⟨k, S', hk, rfl, hW, hU, hS'⟩ := hrel
    have HU := Lib.hid hU
    have HS := Lib.hid hS'
    have HW' := Lib.hid hW
    clear hU hS'
    by_cases hlt : k < 4
    · obtain ⟨v', hB, hO, hne, hS⟩ := hW.ex
      have c0 := hB.cell 0 _ rfl
      have HB := Lib.hid hB
      have HO := Lib.hid hO
      have Hne := Lib.hid hne
      have HSe := Lib.hid hS
      obtain ⟨L, hL⟩ : ∃ L, L = bs ++ (be 4 m).take k := ⟨_, rfl⟩
      obtain ⟨c, hc⟩ : ∃ c, c = bb m (4 - 1 - k) := ⟨_, rfl⟩
      have HL := Lib.hid hL
      have Hc := Lib.hid hc
      rw [← hL] at HO
      clear hB hO hne hS hW hL hc
      go_wp2_with (at_builtin; refine wpList_appB rfl (.tmp 57) (.tmp 64) rfl 0 _ L rfl ?q1 _ [c] rfl ?q2 ?q3 ?q4 ?_)
      case q1 => exact HO.out.upd0 ((Upd.refl _ _).alloc _)
      case q2 =>
        have hb := byte_shift n (4 - 1 - k) (by omega)
        rw [← Hm.out, ← Hc.out] at hb
        exact rb_one _ _ _ _ (by simpa using hb)
      case q3 => have := Hl.out; rw [HL.out]; simp [be_length]; omega
      case q4 => exact Nat.zero_le _
      intro A n2 cap w2 h1
      have c2 := (h1.blk (HB.out.alloc _) Hne.out).cell 0 _ rfl
      have f2 := (h1.blk (HB.out.alloc _) Hne.out).free 0
      go_wp2
      go_roundw
      case rel =>
        obtain ⟨S2, g1, g2, g3⟩ := wr_put HB.out Hne.out ((Upd.refl _ _).alloc _) h1
        refine ⟨k + 1, S2, by omega, by go_num, ?_, ?_, ?_⟩
        · rw [take_snoc _ k (by rw [be_length]; omega), be_getElem, ← List.append_assoc]
          rw [HL.out, Hc.out] at g1
          exact g1
        · exact HU.out.trans' g2 (fun x hx => HS.out x (by rw [HSe.out]; exact hx))
        · intro x hx
          have := HU.out.size
          rcases g3 x hx with h | h
          · exact HS.out x (by rw [HSe.out]; exact h)
          · right; omega
      case measure => simp [intOf]; omega
    · obtain rfl : k = 4 := by omega
      clear hW
      go_wp2
      go_end0
      refine ⟨rfl, S', ?_, HU.out, HS.out⟩
      have := HW'.out
      rwa [List.take_of_length_le (by simp [be_length])] at this
set_option maxHeartbeats 1000000 in
theorem rwnum_c8 (S : List Nat) (p : Nat) (bs : List UInt8) (n : Int) (w : World) (hW : Wr 98 w S p bs 0)
    (hlo : -9223372036854775808 ≤ n) (hhi : n ≤ 9223372036854775807) (hfit : 8 < 8 → -(2 ^ (8 * 8 - 1) : Nat) ≤ n ∧ n < (2 ^ (8 * 8) : Nat)) (hl : bs.length + 8 ≤ lim) :
    Calls Tryd.prog 51 #[ptr p, .int .i64 8, .int .i64 n] w fun e w' => e = .returned (.tuple #[]) ∧ ∃ S', Wr 98 w' S' p (bs ++ be 8 (n % 18446744073709551616).toNat) 0 ∧ Upd S w w' ∧ ∀ x ∈ S', x ∈ S ∨ w.heap.size ≤ x := by
  have HW := Lib.hid hW
  obtain ⟨v, hB, hO, hne, hS⟩ := hW.ex
  have c1 := hB.cell 1 _ rfl
  have Hl := Lib.hid hl
  clear hl hB hO hne hW hS
  obtain ⟨hf1, hf2⟩ : -(2 ^ (8 * 8 - 1) : Nat) ≤ n ∧ n < (2 ^ (8 * 8) : Nat) := by
    rcases Nat.lt_or_ge 8 8 with hk | hk
    · exact hfit hk
    · simp only [Nat.reduceMul, Nat.reduceSub, Nat.reducePow]; omega
  simp only [Nat.reduceMul, Nat.reduceSub, Nat.reducePow] at hf1 hf2
  clear hfit
  obtain ⟨m, hm⟩ : ∃ m, m = (n % 18446744073709551616).toNat := ⟨_, rfl⟩
  rw [← hm]
  have Hm := Lib.hid hm
  clear hm
  go_enter Tryd.func51, Tryd.ntmps51
  go_wp2
  clear c1
  go_loopw [8] (fun t wr => ∃ (k : Nat) (S' : List Nat), k ≤ 8 ∧ t = .int .i64 (8 - 1 - (k : Int)) ∧ Wr 98 wr S' p (bs ++ (be 8 m).take k) 0 ∧ Upd S w wr ∧ (∀ x ∈ S', x ∈ S ∨ w.heap.size ≤ x)) (fun t _ => (intOf t + 1).toNat)
  case atStart => exact ⟨0, S, by omega, rfl, by simpa using HW.out, Upd.refl _ _, fun x hx => .inl hx⟩
  case round =>
    obtain ⟨k, S', hk, rfl, hW, hU, hS'⟩ := hrel
    have HU := Lib.hid hU
    have HS := Lib.hid hS'
    have HW' := Lib.hid hW
    clear hU hS'
    by_cases hlt : k < 8
    · obtain ⟨v', hB, hO, hne, hS⟩ := hW.ex
      have c0 := hB.cell 0 _ rfl
      have HB := Lib.hid hB
      have HO := Lib.hid hO
      have Hne := Lib.hid hne
      have HSe := Lib.hid hS
      obtain ⟨L, hL⟩ : ∃ L, L = bs ++ (be 8 m).take k := ⟨_, rfl⟩
      obtain ⟨c, hc⟩ : ∃ c, c = bb m (8 - 1 - k) := ⟨_, rfl⟩
      have HL := Lib.hid hL
      have Hc := Lib.hid hc
      rw [← hL] at HO
      clear hB hO hne hS hW hL hc
      go_wp2_with (at_builtin; refine wpList_appB rfl (.tmp 57) (.tmp 64) rfl 0 _ L rfl ?q1 _ [c] rfl ?q2 ?q3 ?q4 ?_)
      case q1 => exact HO.out.upd0 ((Upd.refl _ _).alloc _)
      case q2 =>
        have hb := byte_shift n (8 - 1 - k) (by omega)
        rw [← Hm.out, ← Hc.out] at hb
        exact rb_one _ _ _ _ (by simpa using hb)
      case q3 => have := Hl.out; rw [HL.out]; simp [be_length]; omega
      case q4 => exact Nat.zero_le _
      intro A n2 cap w2 h1
      have c2 := (h1.blk (HB.out.alloc _) Hne.out).cell 0 _ rfl
      have f2 := (h1.blk (HB.out.alloc _) Hne.out).free 0
      go_wp2
      go_roundw
      case rel =>
        obtain ⟨S2, g1, g2, g3⟩ := wr_put HB.out Hne.out ((Upd.refl _ _).alloc _) h1
        refine ⟨k + 1, S2, by omega, by go_num, ?_, ?_, ?_⟩
        · rw [take_snoc _ k (by rw [be_length]; omega), be_getElem, ← List.append_assoc]
          rw [HL.out, Hc.out] at g1
          exact g1
        · exact HU.out.trans' g2 (fun x hx => HS.out x (by rw [HSe.out]; exact hx))
        · intro x hx
          have := HU.out.size
          rcases g3 x hx with h | h
          · exact HS.out x (by rw [HSe.out]; exact h)
          · right; omega
      case measure => simp [intOf]; omega
    · obtain rfl : k = 8 := by omega
      clear hW
      go_wp2
      go_end0
      refine ⟨rfl, S', ?_, HU.out, HS.out⟩
      have := HW'.out
      rwa [List.take_of_length_le (by simp [be_length])] at this
theorem rwnum_c (S : List Nat) (p : Nat) (bs : List UInt8) (size : Nat) (n : Int) (w : World) (hW : Wr 98 w S p bs 0) (hs : size = 1 ∨ size = 2 ∨ size = 4 ∨ size = 8)
    (hlo : -9223372036854775808 ≤ n) (hhi : n ≤ 9223372036854775807) (hfit : size < 8 → -(2 ^ (8 * size - 1) : Nat) ≤ n ∧ n < (2 ^ (8 * size) : Nat)) (hl : bs.length + 8 ≤ lim) :
    Calls Tryd.prog 51 #[ptr p, .int .i64 size, .int .i64 n] w fun e w' => e = .returned (.tuple #[]) ∧ ∃ S', Wr 98 w' S' p (bs ++ be size (n % 18446744073709551616).toNat) 0 ∧ Upd S w w' ∧ ∀ x ∈ S', x ∈ S ∨ w.heap.size ≤ x := by
  obtain rfl | rfl | rfl | rfl := hs
  · exact rwnum_c1 S p bs n w hW hlo hhi hfit hl
  · exact rwnum_c2 S p bs n w hW hlo hhi hfit hl
  · exact rwnum_c4 S p bs n w hW hlo hhi hfit hl
  · exact rwnum_c8 S p bs n w hW hlo hhi hfit hl

/-- A Writer that bears an error takes nothing more. -/
theorem rwnum_dead (S : List Nat) (p : Nat) (bs : List UInt8) (size n why : Int) (w : World) (hW : Wr 98 w S p bs why) (hw : why ≠ 0) :
    Calls Tryd.prog 51 #[ptr p, .int .i64 size, .int .i64 n] w fun e w' => e = .returned (.tuple #[]) ∧ w = w' := by
  obtain ⟨v, hB, hO, hne, rfl⟩ := hW.ex
  have c1 := hB.cell 1 _ rfl
  have hz : (why == 0) = false := by simpa using hw
  have hz2 : (why != 0) = true := by simpa using hw
  clear hB hO hne hW
  go_enter Tryd.func51, Tryd.ntmps51
  go_wp2
  refine bodyPost_ret (results_none rfl _ _ _) rfl ?_
  exact ⟨rfl, rfl⟩

theorem rwend_c (S : List Nat) (p : Nat) (bs : List UInt8) (w : World) (hW : Wr 98 w S p bs 0) (hl : bs.length ≤ lim) :
    Calls Tryd.prog 52 #[ptr p] w (Ret fun r w' => ∃ v, r = .tuple #[v, .int .i64 0] ∧ OB w' w.heap.size v bs ∧ Upd [] w w') := by
  obtain ⟨v, hB, hO, hne, rfl⟩ := hW.ex
  have c0 := hB.cell 0 _ rfl
  have c1 := hB.cell 1 _ rfl
  have HO := Lib.hid hO
  have Hl := Lib.hid hl
  clear hO hne hW hB hl
  go_enter Tryd.func52, Tryd.ntmps52
  go_wp2_with (at_builtin; refine wpList_appB rfl (.tmp 14) (.tmp 18) rfl w.heap.size _ [] rfl ?q1 _ bs rfl ?q2 ?q3 ?q4 ?_)
  case q1 => exact OB.nil _ _
  case q2 => exact HO.out.rb
  case q3 => simpa using Hl.out
  case q4 => exact Nat.le_refl _
  intro A n2 cap w2 h1
  go_wp2
  go_ret2
  exact ⟨_, rfl, _, rfl, by simpa using h1.own, h1.from_new (Upd.refl _ _) (by simp [Value.ownBlock])⟩

theorem rwend_bad (S : List Nat) (p : Nat) (bs : List UInt8) (why : Int) (w : World) (hW : Wr 98 w S p bs why) (hw : why ≠ 0) :
    Calls Tryd.prog 52 #[ptr p] w fun e w' => e = .returned (.tuple #[.slice none 0 0, .int .i64 why]) ∧ Upd [] w w' := by
  obtain ⟨v, hB, hO, hne, rfl⟩ := hW.ex
  have c1 := hB.cell 1 _ rfl
  have hz : (why == 0) = false := by simpa using hw
  have hz2 : (why != 0) = true := by simpa using hw
  clear hO hne hW hB
  go_enter Tryd.func52, Tryd.ntmps52
  go_wp2
  go_quiet (fail)
  go_wp2
  go_ret2
  exact ⟨rfl, (Upd.refl _ _).drewN _⟩
end Go.Proofs.YtpkljdjdapgmjaaDoor
