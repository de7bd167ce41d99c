/- The plain words of chapters 1 and 2: numbers as bytes, the highest first. No program in sight. -/
import Derived.Test.YtpkljdjdapgmjaaDoorBase
namespace Go.Proofs.YtpkljdjdapgmjaaDoor
set_option linter.unusedVariables false
set_option linter.unusedSimpArgs false

/-- Byte i of a number, the lowest is 0. -/
def bb (n i : Nat) : UInt8 := UInt8.ofNat (n / 2 ^ (8 * i))
/-- The low s bytes of a number, the highest first. -/
def be : Nat → Nat → List UInt8
  | 0, _ => []
  | s + 1, n => bb n s :: be s n
theorem bb_toNat (n i : Nat) : (bb n i).toNat = n / 2 ^ (8 * i) % 256 := by simp [bb]
theorem be_length (s n : Nat) : (be s n).length = s := by induction s with
  | zero => rfl
  | succ s ih => simp [be, ih]
/-- The number that bytes are. -/
def nb (bs : List UInt8) : Nat := bs.foldl (fun a c => a * 256 + c.toNat) 0
theorem nb_snoc (bs : List UInt8) (c : UInt8) : nb (bs ++ [c]) = nb bs * 256 + c.toNat := by simp [nb]
theorem nb_nil : nb [] = 0 := rfl
theorem foldl_lt (bs : List UInt8) : ∀ a, bs.foldl (fun a c => a * 256 + c.toNat) a < (a + 1) * 256 ^ bs.length := by
  induction bs with
  | nil => intro a; simp
  | cons c bs ih =>
    intro a
    have h1 := ih (a * 256 + c.toNat)
    have hc := c.toNat_lt
    have h2 : (a * 256 + c.toNat + 1) * 256 ^ bs.length ≤ ((a + 1) * 256) * 256 ^ bs.length := Nat.mul_le_mul_right _ (by omega)
    simp only [List.foldl_cons, List.length_cons, Nat.pow_succ]
    rw [Nat.mul_comm (256 ^ bs.length) 256, ← Nat.mul_assoc]
    omega
theorem nb_lt (bs : List UInt8) : nb bs < 256 ^ bs.length := by have := foldl_lt bs 0; simpa [nb] using this
/-- Does a number go into so many bytes? -/
def fitsB (n size : Nat) : Bool := size == 8 || n / 2 ^ (8 * size) == 0
theorem be_getElem (s n k : Nat) (h : k < (be s n).length) : (be s n)[k] = bb n (s - 1 - k) := by
  induction s generalizing k with
  | zero => simp [be] at h
  | succ s ih =>
    cases k with
    | zero => simp [be]
    | succ k =>
      simp only [be, List.getElem_cons_succ]
      rw [ih]
      congr 1
      omega
/-- A byte of a signed number, however it is shifted. -/
theorem byte_shift (n : Int) (i : Nat) (hi : i < 8) : (n / 2 ^ (8 * i)) % 256 = ((bb (n % 18446744073709551616).toNat i).toNat : Int) := by
  rw [bb_toNat]
  obtain rfl | rfl | rfl | rfl | rfl | rfl | rfl | rfl : i = 0 ∨ i = 1 ∨ i = 2 ∨ i = 3 ∨ i = 4 ∨ i = 5 ∨ i = 6 ∨ i = 7 := by omega
  all_goals
    simp only [Nat.reduceMul, Nat.reducePow, Int.reducePow]
    omega
theorem or_step (a : Nat) (c : UInt8) (h : a * 256 < 18446744073709551616) :
    bits .or .u64 (IntKind.u64.wrap ((a : Int) * 256)) (IntKind.u64.wrap (c.toNat : Int)) = ((a * 256 + c.toNat : Nat) : Int) := by
  have hc := c.toNat_lt
  have e1 : IntKind.u64.wrap ((a : Int) * 256) = ((a * 256 : Nat) : Int) := by rw [IntKind.wrap_u64]; omega
  have e2 : IntKind.u64.wrap (c.toNat : Int) = ((c.toNat : Nat) : Int) := by rw [IntKind.wrap_u64]; omega
  rw [e1, e2, u64_or_nat _ _ h (by omega)]
  have := Nat.two_pow_add_eq_or_of_lt (i := 8) (b := c.toNat) (by omega) a
  rw [Nat.mul_comm a 256]
  simp only [Nat.reducePow] at this
  rw [← this]
theorem take_snoc (l : List UInt8) (k : Nat) (h : k < l.length) : l.take (k + 1) = l.take k ++ [l[k]] := by
  rw [List.take_succ_eq_append_getElem h]
theorem pow256_le (k : Nat) (h : k ≤ 7) : 256 ^ k * 256 ≤ 18446744073709551616 := by
  rw [← Nat.pow_succ]
  exact Nat.le_trans (Nat.pow_le_pow_right (by omega) (show k + 1 ≤ 8 by omega)) (by decide)
end Go.Proofs.YtpkljdjdapgmjaaDoor
