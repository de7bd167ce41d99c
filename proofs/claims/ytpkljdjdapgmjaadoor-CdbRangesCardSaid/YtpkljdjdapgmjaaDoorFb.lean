/- Contracts of package field's inner functions (fits, there, number, Get) and of slices.Clone. -/
import Derived.Test.YtpkljdjdapgmjaaDoorFm
namespace Go.Proofs.YtpkljdjdapgmjaaDoor
open Go.RowKit
set_option linter.unusedVariables false
set_option linter.unusedSimpArgs false

theorem fits_c (n : Nat) (size : Int) (w : World) (hn : n < 18446744073709551616) (h1 : 1 ≤ size) (h8 : size ≤ 8) :
    Calls Tryd.prog 54 #[.int .u64 n, .int .i64 size] w fun e w' => e = .returned (.bool (fitsB n size.toNat)) ∧ w = w' := by
  obtain ⟨s, rfl⟩ := Int.eq_ofNat_of_zero_le (show 0 ≤ size by omega)
  by_cases h : s = 8
  · subst h
    go_enter Tryd.func54, Tryd.ntmps54
    go_wp2
    go_ret
    exact ⟨ret_bool (by simp [fitsB]), rfl⟩
  · have hb : ((s : Int) == 8) = false := by simp; omega
    go_enter Tryd.func54, Tryd.ntmps54
    go_wp2
    go_ret
    refine ⟨ret_bool ?_, rfl⟩
    have e : (8 * (s : Int)).toNat = 8 * s := by omega
    have h' : (s == 8) = false := by simpa using h
    simp only [fitsB, Int.toNat_natCast, h', Bool.false_or]
    rw [Bool.eq_iff_iff, beq_iff_eq, beq_iff_eq]
    norm_cast

theorem there_c (a : Option Addr) (len cap : Nat) (i size : Int) (w : World) (hl : len ≤ 9223372036854775807) (h0 : 0 ≤ i) (h1 : 1 ≤ size) (h8 : size ≤ 8) :
    Calls Tryd.prog 53 #[.slice a len cap, .int .i64 i, .int .i64 size] w fun e w' => e = .returned (.bool (decide (i + size ≤ len))) ∧ w = w' := by
  by_cases h : size ≤ len
  · go_enter Tryd.func53, Tryd.ntmps53
    go_wp2
    go_ret
    exact ⟨ret_bool (by simp; omega), rfl⟩
  · go_enter Tryd.func53, Tryd.ntmps53
    go_wp2
    go_ret
    exact ⟨ret_bool (by simp; omega), rfl⟩

theorem number_c (n : Nat) (w : World) (hn : n < 18446744073709551616) :
    Calls Tryd.prog 56 #[.int .u64 n] w fun e w' => e = .returned (.agg #[.int .u8 (bb n 7).toNat, .int .u8 (bb n 6).toNat, .int .u8 (bb n 5).toNat, .int .u8 (bb n 4).toNat, .int .u8 (bb n 3).toNat, .int .u8 (bb n 2).toNat, .int .u8 (bb n 1).toNat, .int .u8 (bb n 0).toNat]) ∧ Upd [] w w' := by
  go_enter Tryd.func56, Tryd.ntmps56
  go_wp2
  refine wp_loop_rounds 9 ?_
  iterate 9 (rw [rounds_succ]; go_wp2)
  refine bodyPost_ret (v := .agg #[.int .u8 (bb n 7).toNat, .int .u8 (bb n 6).toNat, .int .u8 (bb n 5).toNat, .int .u8 (bb n 4).toNat, .int .u8 (bb n 3).toNat, .int .u8 (bb n 2).toNat, .int .u8 (bb n 1).toNat, .int .u8 (bb n 0).toNat]) ?_ rfl ⟨rfl, ((Upd.refl _ _).alloc _).alloc _⟩
  simp [results, Tryd.results56, go_sem, bb_toNat]
  omega

theorem get_c (v : Value) (bs : List UInt8) (i size : Nat) (w : World) (hb : RB w v bs) (h1 : 1 ≤ size) (h8 : size ≤ 8) (hi : i + size ≤ bs.length) :
    Calls Tryd.prog 36 #[v, .int .i64 i, .int .i64 size] w fun e w' => e = .returned (.tuple #[.int .u64 (nb ((bs.drop i).take size) : Nat), .int .i64 0]) ∧ w = w' := by
  obtain ⟨g, off, cap, rfl, hlc, hcm, hc⟩ := hb.open_pos (by omega)
  have hd : decide ((i : Int) + size ≤ (bs.length : Int)) = true := by simp; omega
  go_enter Tryd.func36, Tryd.ntmps36
  go_wp2_with (go_at_call 53; refine (there_c _ _ _ _ _ _ (by omega) (by omega) (by omega) (by omega)).mono ?_; rintro e w' ⟨rfl, rfl⟩)
  go_loop [8, 23] (fun n t => ∃ k : Nat, k ≤ size ∧ t = .int .i64 k ∧ n = .int .u64 (nb ((bs.drop i).take k) : Nat)) (fun _ t => size - (intOf t).toNat)
  case atStart => exact ⟨0, Nat.zero_le _, rfl, by simp [nb]⟩
  case round =>
    obtain ⟨k, hk, rfl, rfl⟩ := hrel
    by_cases hlt : k < size
    · have hck := hc (i + k) (by omega)
      rw [← Nat.add_assoc] at hck
      have hn := nb_lt ((bs.drop i).take k)
      go_wp2
      refine ⟨⟨k + 1, by omega, by go_num, ?_⟩, by simp [intOf]; omega⟩
      have hl : k < (bs.drop i).length := by simp; omega
      have hle := pow256_le k (by omega)
      rw [take_snoc _ k hl, nb_snoc, List.getElem_drop]
      rw [List.length_take, List.length_drop, Nat.min_eq_left (by omega)] at hn
      rw [or_step _ _ (by omega)]
    · obtain rfl : k = size := by omega
      go_wp2
      go_ret2
      exact ⟨rfl, rfl⟩

theorem get_no (v : Value) (bs : List UInt8) (i size : Nat) (w : World) (hb : RB w v bs) (h1 : 1 ≤ size) (h8 : size ≤ 8) (hi : bs.length < i + size) :
    Calls Tryd.prog 36 #[v, .int .i64 i, .int .i64 size] w fun e w' => e = .returned (.tuple #[.int .u64 0, .int .i64 1]) ∧ w = w' := by
  obtain ⟨A, cap, rfl, hlc, hcm, _, hc⟩ := hb.open_
  have hd : decide ((i : Int) + size ≤ (bs.length : Int)) = false := by simp; omega
  go_enter Tryd.func36, Tryd.ntmps36
  go_wp2_with (go_at_call 53; refine (there_c _ _ _ _ _ _ (by omega) (by omega) (by omega) (by omega)).mono ?_; rintro e w' ⟨rfl, rfl⟩)
  go_ret2
  exact ⟨rfl, rfl⟩

theorem clone_c (v : Value) (bs : List UInt8) (w : World) (hb : RB w v bs) (hs : bs.length ≤ lim) :
    Calls Tryd.prog 55 #[v] w (Ret fun r w' => OB w' w.heap.size r bs ∧ Upd [] w w') := by
  obtain ⟨A, cap, rfl, hlc, hcm, hA, hc⟩ := hb.open_
  have q := eq_nilB
  cases A with
  | none =>
    obtain rfl : bs = [] := List.eq_nil_of_length_eq_zero (by have := hA rfl; omega)
    obtain rfl : cap = 0 := hA rfl
    clear hs hc hb
    go_enter Tryd.func55, Tryd.ntmps55
    go_wp2
    go_ret
    exact ⟨_, rfl, OB.nil _ _, Upd.refl _ _⟩
  | some a =>
    clear hA
    have Hs := Lib.hid hs
    have Hb := Lib.hid hb
    clear hs hc hb
    go_enter Tryd.func55, Tryd.ntmps55
    go_wp2_with (at_builtin; refine wpList_appB rfl _ _ rfl w.heap.size _ [] rfl (OB.made w _ (Nat.le_refl _)) _ bs rfl ?q1 ?q2 ?q3 ?_)
    case q1 => exact Rd.alloc Hb.out _
    case q2 => simpa using Hs.out
    case q3 => simp
    intro A1 n1 c1 w1 h1
    go_wp2
    go_ret
    exact ⟨_, rfl, by simpa using h1.own, h1.from_new ((Upd.refl _ _).alloc _) (by simp [Value.ownBlock])⟩
end Go.Proofs.YtpkljdjdapgmjaaDoor
