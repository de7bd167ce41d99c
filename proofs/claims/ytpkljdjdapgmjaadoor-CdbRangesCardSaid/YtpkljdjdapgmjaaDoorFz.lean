/- Plain laws on numbers as bytes: there and back. No program in sight. -/
import Derived.Test.YtpkljdjdapgmjaaDoorFa
namespace Go.Proofs.YtpkljdjdapgmjaaDoor
set_option linter.unusedVariables false
set_option linter.unusedSimpArgs false

theorem pow2_256 (k : Nat) : 2 ^ (8 * k) = 256 ^ k := by rw [Nat.pow_mul]
theorem bb_mod (n k i : Nat) (h : i < k) : bb (n % 256 ^ k) i = bb n i := by
  apply UInt8.toNat_inj.1
  rw [bb_toNat, bb_toNat, pow2_256]
  obtain ⟨d, rfl⟩ : ∃ d, k = i + (d + 1) := ⟨k - i - 1, by omega⟩
  rw [Nat.pow_add, Nat.mod_mul_right_div_self]
  exact Nat.mod_mod_of_dvd _ (by rw [Nat.pow_succ]; exact Nat.dvd_mul_left _ _)
theorem be_mod (s n k : Nat) (h : s ≤ k) : be s (n % 256 ^ k) = be s n := by
  induction s with
  | zero => rfl
  | succ s ih => rw [be, be, bb_mod n k s (by omega), ih (by omega)]
theorem foldl_add (l : List UInt8) (a : Nat) : l.foldl (fun a c => a * 256 + c.toNat) a = a * 256 ^ l.length + nb l := by
  induction l generalizing a with
  | nil => simp [nb]
  | cons c l ih =>
    rw [List.foldl_cons, ih]
    unfold nb
    rw [List.foldl_cons, ih, List.length_cons, Nat.pow_succ]
    simp only [Nat.zero_mul, Nat.zero_add]
    rw [Nat.add_mul, Nat.mul_assoc, Nat.mul_comm 256, Nat.add_assoc, ih c.toNat]
theorem nb_cons (c : UInt8) (l : List UInt8) : nb (c :: l) = c.toNat * 256 ^ l.length + nb l := by
  rw [nb, List.foldl_cons, foldl_add]
  simp
theorem nb_append (a b : List UInt8) : nb (a ++ b) = nb a * 256 ^ b.length + nb b := by
  unfold nb
  rw [List.foldl_append, foldl_add]
  rfl
/-- Bytes are the bytes of their number. -/
theorem be_nb (l : List UInt8) : be l.length (nb l) = l := by
  induction l with
  | nil => rfl
  | cons c l ih =>
    rw [List.length_cons, be, nb_cons]
    have hlt := nb_lt l
    congr 1
    · apply UInt8.toNat_inj.1
      rw [bb_toNat, pow2_256]
      have hc := c.toNat_lt
      rw [Nat.add_comm, Nat.add_mul_div_right _ _ (Nat.pow_pos (by decide)), Nat.div_eq_of_lt hlt, Nat.zero_add]
      exact Nat.mod_eq_of_lt hc
    · rw [← be_mod l.length _ l.length (Nat.le_refl _), Nat.add_comm, Nat.add_mul_mod_self_right, Nat.mod_eq_of_lt hlt, ih]
theorem be_nb' (l : List UInt8) (s : Nat) (h : l.length = s) : be s (nb l) = l := by subst h; exact be_nb l
/-- Numbers are the numbers of their bytes. -/
theorem nb_be' (s n : Nat) : nb (be s n) = n % 256 ^ s := by
  have h1 := be_nb (be s n)
  rw [be_length] at h1
  have h2 := nb_lt (be s n)
  rw [be_length] at h2
  have key : ∀ (s a b : Nat), a < 256 ^ s → b < 256 ^ s → be s a = be s b → a = b := by
    intro s
    induction s with
    | zero => intro a b ha hb _; simp at ha hb; omega
    | succ s ih =>
      intro a b ha hb h
      rw [be, be] at h
      injection h with h3 h4
      have e1 := ih (a % 256 ^ s) (b % 256 ^ s) (Nat.mod_lt _ (Nat.pow_pos (by decide))) (Nat.mod_lt _ (Nat.pow_pos (by decide))) (by rw [be_mod _ _ _ (Nat.le_refl _), be_mod _ _ _ (Nat.le_refl _), h4])
      have e2 := congrArg UInt8.toNat h3
      rw [bb_toNat, bb_toNat, pow2_256] at e2
      have hp : 0 < 256 ^ s := Nat.pow_pos (by decide)
      have q1 : a / 256 ^ s < 256 := by rw [Nat.div_lt_iff_lt_mul hp, Nat.mul_comm, ← Nat.pow_succ]; exact ha
      have q2 : b / 256 ^ s < 256 := by rw [Nat.div_lt_iff_lt_mul hp, Nat.mul_comm, ← Nat.pow_succ]; exact hb
      rw [Nat.mod_eq_of_lt q1, Nat.mod_eq_of_lt q2] at e2
      rw [← Nat.div_add_mod a (256 ^ s), ← Nat.div_add_mod b (256 ^ s), e1, e2]
  exact key s _ _ h2 (Nat.mod_lt _ (Nat.pow_pos (by decide))) (by rw [h1, be_mod _ _ _ (Nat.le_refl _)])
theorem nb_be_lt (s n : Nat) (h : n < 256 ^ s) : nb (be s n) = n := by rw [nb_be', Nat.mod_eq_of_lt h]
end Go.Proofs.YtpkljdjdapgmjaaDoor
