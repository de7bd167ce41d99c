/- Contracts of field.Writer, second part. -/
import Derived.Test.YtpkljdjdapgmjaaDoorFw
namespace Go.Proofs.YtpkljdjdapgmjaaDoor
open Go.RowKit
set_option linter.unusedVariables false
set_option linter.unusedSimpArgs false

/-- A Writer that bears an error takes nothing more. -/
theorem num_dead (S : List Nat) (p : Nat) (bs : List UInt8) (size n why : Int) (w : World) (hW : Wr 110 w S p bs why) (hw : why ≠ 0) :
    Calls Tryd.prog 44 #[ptr p, .int .i64 size, .int .i64 n] w fun e w' => e = .returned (.tuple #[]) ∧ w = w' := by
  obtain ⟨v, hB, hO, hne, rfl⟩ := hW.ex
  have c1 := hB.cell 1 _ rfl
  have hz : (why == 0) = false := by simpa using hw
  have hz2 : (why != 0) = true := by simpa using hw
  clear hB hO hne hW
  go_enter Tryd.func44, Tryd.ntmps44
  go_wp2
  refine bodyPost_ret (results_none rfl _ _ _) rfl ?_
  exact ⟨rfl, rfl⟩

/-- A number that does not go in. -/
theorem num_big (S : List Nat) (p : Nat) (bs : List UInt8) (size : Nat) (n : Int) (w : World) (hW : Wr 110 w S p bs 0) (hs : size = 1 ∨ size = 2 ∨ size = 4)
    (hlo : -9223372036854775808 ≤ n) (hhi : n ≤ 9223372036854775807) (hfit : n < -(2 ^ (8 * size - 1) : Nat) ∨ (2 ^ (8 * size) : Nat) ≤ n) :
    Calls Tryd.prog 44 #[ptr p, .int .i64 size, .int .i64 n] w fun e w' => e = .returned (.tuple #[]) ∧ Wr 110 w' S p bs 3 ∧ Upd S w w' := by
  obtain ⟨v, hB, hO, hne, rfl⟩ := hW.ex
  have c0 := hB.cell 0 _ rfl
  have c1 := hB.cell 1 _ rfl
  have f0 := hB.free 0
  have f1 := hB.free 1
  have HB := Lib.hid hB
  have HO := Lib.hid hO
  have Hne := Lib.hid hne
  have fin : Wr 110 (w.setCell ⟨p, 1, none⟩ (.int .i64 3)) (p :: v.ownBlock.toList) p bs 3 ∧ Upd (p :: v.ownBlock.toList) w (w.setCell ⟨p, 1, none⟩ (.int .i64 3)) := by
    refine ⟨⟨v, hB.set 1 _, hO.upd ((Upd.refl [p] _).setCell (.inl (by simp)) _) ?_, hne, rfl⟩, (Upd.refl _ _).setCell (.inl (by simp)) _⟩
    intro g hg
    simp
    rintro rfl
    exact hne hg
  clear hB hO hne hW
  obtain rfl | rfl | rfl := hs
  all_goals
    simp only [Nat.reduceMul, Nat.reduceSub, Nat.reducePow] at hfit
    have HF := Lib.hid fin
    clear fin
    go_enter Tryd.func44, Tryd.ntmps44
    go_wp2
    all_goals
      go_end0
      exact ⟨rfl, HF.out⟩

/-- The bytes, anew. -/
theorem wend_c (S : List Nat) (p : Nat) (bs : List UInt8) (w : World) (hW : Wr 110 w S p bs 0) (hl : bs.length ≤ lim) :
    Calls Tryd.prog 45 #[ptr p] w (Ret fun r w' => ∃ v, r = .tuple #[v, .int .i64 0] ∧ OB w' w.heap.size v bs ∧ Upd [] w w') := by
  obtain ⟨v, hB, hO, hne, rfl⟩ := hW.ex
  have c0 := hB.cell 0 _ rfl
  have c1 := hB.cell 1 _ rfl
  have HO := Lib.hid hO
  have Hl := Lib.hid hl
  clear hO hne hW hB hl
  go_enter Tryd.func45, Tryd.ntmps45
  go_wp2_with fail
  refine (clone_c _ _ _ HO.out.rb Hl.out).mono ?_
  rintro e w1 ⟨r, rfl, h1, h2⟩
  obtain ⟨A, cap, rfl⟩ := h1.slice
  go_wp2_with fail
  go_ret2
  exact ⟨_, rfl, _, rfl, h1, h2⟩

theorem wend_bad (S : List Nat) (p : Nat) (bs : List UInt8) (why : Int) (w : World) (hW : Wr 110 w S p bs why) (hw : why ≠ 0) :
    Calls Tryd.prog 45 #[ptr p] w fun e w' => e = .returned (.tuple #[.slice none 0 0, .int .i64 why]) ∧ Upd [] w w' := by
  obtain ⟨v, hB, hO, hne, rfl⟩ := hW.ex
  have c1 := hB.cell 1 _ rfl
  have hz : (why == 0) = false := by simpa using hw
  have hz2 : (why != 0) = true := by simpa using hw
  clear hO hne hW hB
  go_enter Tryd.func45, Tryd.ntmps45
  go_wp2
  go_quiet (fail)
  go_wp2
  go_ret2
  exact ⟨rfl, (Upd.refl _ _).drewN _⟩
end Go.Proofs.YtpkljdjdapgmjaaDoor
