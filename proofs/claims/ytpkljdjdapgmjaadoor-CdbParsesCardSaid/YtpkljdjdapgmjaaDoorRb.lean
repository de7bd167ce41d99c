/- Contracts of the reference's put and Build (caissonref15). -/
import Derived.Test.YtpkljdjdapgmjaaDoorRc
import Derived.Test.YtpkljdjdapgmjaaDoorCd
namespace Go.Proofs.YtpkljdjdapgmjaaDoor
open Go.RowKit
set_option linter.unusedVariables false
set_option linter.unusedSimpArgs false

/-- What put answers. -/
def RStep (base : Nat) (bs : List UInt8) (p : Nat × Nat × Nat) (n : Nat) (V : Value) (E : Int) (w' : World) : Prop :=
  (stepB p n (bs, false) = none ∧ E = 3) ∨ (stepB p n (bs, false) = some (bs, true) ∧ E = 11) ∨ ∃ b', stepB p n (bs, false) = some (b', false) ∧ E = 0 ∧ OB w' base V b'

theorem rstep_c (v : Value) (bs : List UInt8) (p : Nat × Nat × Nat) (n base : Nat) (w : World) (hb : OB w base v bs) (hbase : base ≤ w.heap.size) (hp : PlOk p) (hl : bs.length = 16) (hn : n < 18446744073709551616) :
    Calls Tryd.prog 58 #[v, placeV p, .int .u64 n] w (Ret fun r w' => ∃ V E, r = .tuple #[V, .int .i64 E] ∧ Upd [] w w' ∧ RStep base bs p n V E w') := by
  obtain ⟨a, s, b⟩ := p
  unfold placeV
  dsimp only
  have d0 := (Blk.new w [.int .i64 (a : Int), .int .i64 (s : Int), .int .i64 (b : Int)] 79).cell 0 _ rfl
  have d1 := (Blk.new w [.int .i64 (a : Int), .int .i64 (s : Int), .int .i64 (b : Int)] 79).cell 1 _ rfl
  have d2 := (Blk.new w [.int .i64 (a : Int), .int .i64 (s : Int), .int .i64 (b : Int)] 79).cell 2 _ rfl
  have HB := Lib.hid hb
  have HL := Lib.hid hl
  have HS := Lib.hid hbase
  clear hb hl hbase
  by_cases hs : s = 0
  · subst hs
    by_cases h0 : n = 0
    · subst h0
      have hst : stepB (a, 0, b) 0 (bs, false) = some (bs, false) := rfl
      have HST := Lib.hid hst
      clear hst hp
      go_enter Tryd.func58, Tryd.ntmps58
      go_wp2_with fail
      go_ret2
      exact ⟨_, rfl, _, _, rfl, (Upd.refl _ _).alloc _, .inr (.inr ⟨bs, HST.out, rfl, HB.out.upd0 ((Upd.refl _ _).alloc _)⟩)⟩
    · have hst : stepB (a, 0, b) n (bs, false) = some (bs, true) := by simp [stepB, h0]
      have hnz : ((n : Int) != 0) = true := by rw [bne_iff_ne]; omega
      have HST := Lib.hid hst
      clear hst h0 hp
      go_enter Tryd.func58, Tryd.ntmps58
      go_wp2_with fail
      go_ret2
      exact ⟨_, rfl, _, _, rfl, (Upd.refl _ _).alloc _, .inr (.inl ⟨HST.out, rfl⟩)⟩
  · have hz : ((s : Int) == 0) = false := by rw [beq_eq_false_iff_ne]; omega
    have hsz : s = 1 ∨ s = 2 ∨ s = 4 ∨ s = 8 := by
      rcases hp with h | h
      · exact absurd h hs
      · exact h.1
    have hat : a + s ≤ 16 ∧ b ≤ 8 := by
      rcases hp with h | h
      · exact absurd h hs
      · exact h.2
    have HSZ := Lib.hid hsz
    have hp2 : (2 : Int) ^ b ≤ 256 ∧ (1 : Int) ≤ 2 ^ b := by
      have h2 : 2 ^ b ≤ 256 := by
        have := Nat.pow_le_pow_right (n := 2) (by omega) hat.2
        simpa using this
      have h1 : 1 ≤ 2 ^ b := Nat.one_le_two_pow
      have e0 : (2 : Int) ^ b = ((2 ^ b : Nat) : Int) := by push_cast; rfl
      rw [e0]
      omega
    obtain ⟨hp2a, hp2b⟩ := hp2
    have hwr : IntKind.u64.wrap ((2 : Int) ^ b) = (2 : Int) ^ b := by rw [IntKind.wrap_u64]; omega
    clear hsz hp
    by_cases hbits : 0 < b ∧ n / 2 ^ b ≠ 0
    · obtain ⟨hb0, hb1⟩ := hbits
      have hst : stepB (a, s, b) n (bs, false) = none := by simp [stepB, hs, hb0, hb1]
      have hge : (2 : Int) ^ b ≤ (n : Int) := by
        have h2 : 2 ^ b ≤ n := by
          rcases Nat.lt_or_ge n (2 ^ b) with h | h
          · exact absurd (Nat.div_eq_of_lt h) hb1
          · exact h
        have e0 : (2 : Int) ^ b = ((2 ^ b : Nat) : Int) := by push_cast; rfl
        rw [e0]; omega
      have hge' : decide ((2 : Int) ^ b ≤ (n : Int)) = true := decide_eq_true hge
      have HST := Lib.hid hst
      clear hst hb1
      go_enter Tryd.func58, Tryd.ntmps58
      go_wp2_with fail
      go_ret2
      exact ⟨_, rfl, _, _, rfl, (Upd.refl _ _).alloc _, .inl ⟨HST.out, rfl⟩⟩
    · have hlt : 0 < b → (n : Int) < (2 : Int) ^ b := by
        intro h0
        have h1 : n / 2 ^ b = 0 := by
          by_cases h : n / 2 ^ b = 0
          · exact h
          · exact absurd ⟨h0, h⟩ hbits
        have h2 : n < 2 ^ b := by
          rcases Nat.lt_or_ge n (2 ^ b) with h | h
          · exact h
          · have := Nat.div_pos h Nat.one_le_two_pow; omega
        have e0 : (2 : Int) ^ b = ((2 ^ b : Nat) : Int) := by push_cast; rfl
        rw [e0]; omega
      cases hf : fitsB n s with
      | true =>
        have hst : stepB (a, s, b) n (bs, false) = some (putB bs a s n, false) := by
          unfold stepB
          dsimp only
          rw [if_neg hs, if_neg hbits, if_neg (by simp [hf])]
        have HST := Lib.hid hst
        have HF := Lib.hid hf
        clear hst hf hbits
        by_cases hb0 : 0 < b
        all_goals
          first
            | (have hlt' := hlt hb0; have hlt'' : decide ((2 : Int) ^ b ≤ (n : Int)) = false := by (rw [decide_eq_false_iff_not]; omega))
            | skip
          clear hlt
          go_enter Tryd.func58, Tryd.ntmps58
          go_wp2_with fail
          refine (rput_c _ bs a s n _ HSZ.out (HB.out.upd0 ((Upd.refl _ _).alloc _)).rb (by rw [HL.out]; exact hat.1) hn HF.out (by rw [HL.out]; decide)).mono ?_
          rintro e W2 ⟨r, rfl, v2, rfl, j1, j2⟩
          have J1 := Lib.hid j1
          have J2 := Lib.hid j2
          clear j1 j2
          go_wp2_with fail
          go_ret2
          exact ⟨_, rfl, _, _, rfl, ((Upd.refl _ _).alloc _).trans J2.out, .inr (.inr ⟨_, HST.out, rfl, J1.out.base (fun g hg => by have h1 := (J1.out.lt g hg).1; have := HS.out; simp at h1; omega)⟩)⟩
      | false =>
        have hst : stepB (a, s, b) n (bs, false) = none := by
          unfold stepB
          dsimp only
          rw [if_neg hs, if_neg hbits, if_pos hf]
        have HST := Lib.hid hst
        have HF := Lib.hid hf
        clear hst hf hbits
        by_cases hb0 : 0 < b
        all_goals
          first
            | (have hlt' := hlt hb0; have hlt'' : decide ((2 : Int) ^ b ≤ (n : Int)) = false := by (rw [decide_eq_false_iff_not]; omega))
            | skip
          clear hlt
          go_enter Tryd.func58, Tryd.ntmps58
          go_wp2_with fail
          refine (rput_big _ bs a s n _ (HB.out.upd0 ((Upd.refl _ _).alloc _)).rb (by omega) (by have := HSZ.out; omega) (by rw [HL.out]; exact hat.1) hn HF.out).mono ?_
          rintro e W2 ⟨rfl, rfl⟩
          go_wp2_with fail
          go_ret2
          exact ⟨_, rfl, _, _, rfl, (Upd.refl _ _).alloc _, .inl ⟨HST.out, rfl⟩⟩
end Go.Proofs.YtpkljdjdapgmjaaDoor
