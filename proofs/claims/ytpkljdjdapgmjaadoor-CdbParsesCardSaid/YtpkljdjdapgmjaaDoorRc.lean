/- The contract of the reference's get (caissonref15). -/
import Derived.Test.YtpkljdjdapgmjaaDoorRa
namespace Go.Proofs.YtpkljdjdapgmjaaDoor
open Go.RowKit
set_option linter.unusedVariables false
set_option linter.unusedSimpArgs false

/-- A field, read; 0 where there is none. -/
def getB (p : Nat × Nat × Nat) (bs : List UInt8) : Nat := if p.2.1 = 0 then 0 else fieldB p bs
def placeV (p : Nat × Nat × Nat) : Value := .agg #[.int .i64 (p.1 : Int), .int .i64 (p.2.1 : Int), .int .i64 (p.2.2 : Int)]
theorem rfield_c (v : Value) (bs : List UInt8) (p : Nat × Nat × Nat) (w : World) (hb : RB w v bs) (hp : PlOk p) (hl : bs.length = 16) :
    Calls Tryd.prog 40 #[v, placeV p] w fun e w' => e = .returned (.int .u64 (getB p bs : Nat)) ∧ Upd [] w w' := by
  obtain ⟨a, s, b⟩ := p
  unfold placeV
  dsimp only
  have d0 := (Blk.new w [.int .i64 (a : Int), .int .i64 (s : Int), .int .i64 (b : Int)] 79).cell 0 _ rfl
  have d1 := (Blk.new w [.int .i64 (a : Int), .int .i64 (s : Int), .int .i64 (b : Int)] 79).cell 1 _ rfl
  have d2 := (Blk.new w [.int .i64 (a : Int), .int .i64 (s : Int), .int .i64 (b : Int)] 79).cell 2 _ rfl
  by_cases hs : s = 0
  · subst hs
    have hg : getB (a, 0, b) bs = 0 := rfl
    have HG := Lib.hid hg
    clear hg hb hp hl
    go_enter Tryd.func40, Tryd.ntmps40
    go_wp2_with fail
    go_ret
    exact ⟨ret_int (by rw [HG.out]; rfl), (Upd.refl _ _).alloc _⟩
  · have hz : ((s : Int) == 0) = false := by rw [beq_eq_false_iff_ne]; omega
    have hsz : s = 1 ∨ s = 2 ∨ s = 4 ∨ s = 8 := by
      rcases hp with h | h
      · exact absurd h hs
      · exact h.1
    have hat : a + s ≤ 16 ∧ b ≤ 8 := by
      rcases hp with h | h
      · exact absurd h hs
      · exact h.2
    obtain ⟨q, hq⟩ : ∃ q, q = nb ((bs.drop a).take s) := ⟨_, rfl⟩
    have hq64 : q < 18446744073709551616 := by
      have h1 := nb_lt ((bs.drop a).take s)
      have h2 : 256 ^ ((bs.drop a).take s).length ≤ 256 ^ 8 := Nat.pow_le_pow_right (by omega) (by rw [List.length_take]; omega)
      have h3 : (256 : Nat) ^ 8 = 18446744073709551616 := by decide
      omega
    have hg : getB (a, s, b) bs = if 0 < b then q % 2 ^ b else q := by unfold getB fieldB; dsimp only; rw [if_neg hs, hq]
    have HG := Lib.hid hg
    have HQ := Lib.hid hq
    have HS := Lib.hid hsz
    have HB := Lib.hid hb
    have HL := Lib.hid hl
    clear hg hq hsz hb hl hp
    go_enter Tryd.func40, Tryd.ntmps40
    go_wp2_with fail
    refine (rget_c _ bs a s _ (HB.out.upd ((Upd.refl _ _).alloc _)) (by have := HS.out; omega) (by have := HS.out; omega) (by rw [HL.out]; exact hat.1)).mono ?_
    rintro e w1 ⟨rfl, rfl⟩
    rw [← HQ.out]
    by_cases hb0 : 0 < b
    · obtain ⟨m, hm⟩ : ∃ m, m = q % 2 ^ b := ⟨_, rfl⟩
      have hmod : (q : Int).tmod (2 ^ b) = (m : Int) := by rw [hm]; norm_cast
      have hmod2 : (q : Int) % (2 ^ b) = (m : Int) := by rw [hm]; norm_cast
      have hp2 : (2 : Int) ^ b ≤ 256 ∧ (1 : Int) ≤ 2 ^ b := by
        have h2 : 2 ^ b ≤ 256 := by
          have := Nat.pow_le_pow_right (n := 2) (by omega) hat.2
          simpa using this
        have h1 : 1 ≤ 2 ^ b := Nat.one_le_two_pow
        have e0 : (2 : Int) ^ b = ((2 ^ b : Nat) : Int) := by push_cast; rfl
        rw [e0]
        omega
      obtain ⟨hp2a, hp2b⟩ := hp2
      have HM := Lib.hid hm
      clear hm
      go_wp2_with fail
      go_ret
      exact ⟨ret_int (by rw [HG.out, if_pos hb0, HM.out]), (Upd.refl _ _).alloc _⟩
    · go_wp2_with fail
      go_ret
      exact ⟨ret_int (by rw [HG.out, if_neg hb0]), (Upd.refl _ _).alloc _⟩
end Go.Proofs.YtpkljdjdapgmjaaDoor
