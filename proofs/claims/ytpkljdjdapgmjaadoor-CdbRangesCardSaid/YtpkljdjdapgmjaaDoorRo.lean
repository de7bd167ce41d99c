/- Contracts of PutRanges, the program's and the reference's. -/
import Derived.Test.YtpkljdjdapgmjaaDoorRn
import Derived.Test.YtpkljdjdapgmjaaDoorKa
namespace Go.Proofs.YtpkljdjdapgmjaaDoor
open Go.RowKit
set_option linter.unusedVariables false
set_option linter.unusedSimpArgs false

/-- One range is written. -/
def stepR (st : List UInt8 × Int) (x : Nat × Int) : List UInt8 × Int := numW 4 0 (numW 4 x.2 (numW 8 (wrap64 (x.1 : Int)) st))
/-- The head of n ranges. -/
def headR (n : Nat) : List UInt8 × Int := numW 4 0 (numW 2 (16 * (n : Int)) (numW 2 (16 * (n : Int) + 6) ([], 0)))
def headB (n : Nat) : List UInt8 := be 2 (16 * n + 6) ++ be 2 (16 * n) ++ be 4 0
def rangeB (x : Nat × Int) : List UInt8 := be 8 x.1 ++ be 4 x.2.toNat ++ be 4 0
theorem rangeB_length (x : Nat × Int) : (rangeB x).length = 16 := by simp [rangeB, be_length]
theorem headB_length (n : Nat) : (headB n).length = 8 := by simp [headB, be_length]
/-- A range's number of blocks goes into four bytes. -/
def fitR (x : Nat × Int) : Bool := decide (0 ≤ x.2) && decide (x.2 < 4294967296)
/-- What PutRanges answers: the error, the bytes. -/
def prB (l : List (Nat × Int)) : Int × List UInt8 :=
  if 32 < l.length then (3, []) else if l.all fitR then (0, headB l.length ++ l.flatMap rangeB) else (3, [])
theorem wzero : wrap64 ((0 : Nat) : Int) = 0 := by unfold wrap64; omega
theorem numW_ok {size : Nat} {n : Int} {st : List UInt8} (h : size = 2 ∨ size = 4) (h0 : 0 ≤ n) (hn : n < (2 ^ (8 * size) : Nat)) : numW size n (st, 0) = (st ++ be size n.toNat, 0) := by
  have hm : (n % 18446744073709551616).toNat = n.toNat := by
    rcases h with rfl | rfl
    · simp only [Nat.reduceMul, Nat.reducePow] at hn; omega
    · simp only [Nat.reduceMul, Nat.reducePow] at hn; omega
  unfold numW
  rw [if_neg (by simp), hm, if_neg]
  rcases h with rfl | rfl
  · simp only [Nat.reduceMul, Nat.reducePow, Nat.reduceSub] at hn ⊢; omega
  · simp only [Nat.reduceMul, Nat.reducePow, Nat.reduceSub] at hn ⊢; omega
theorem headR_eq (n : Nat) (h : n ≤ 32) : headR n = (headB n, 0) := by
  unfold headR headB
  rw [numW_ok (.inl rfl) (by omega) (by simp only [Nat.reduceMul, Nat.reducePow]; omega), numW_ok (.inl rfl) (by omega) (by simp only [Nat.reduceMul, Nat.reducePow]; omega), numW_ok (.inr rfl) (by omega) (by simp only [Nat.reduceMul, Nat.reducePow]; omega)]
  have e1 : (16 * (n : Int) + 6).toNat = 16 * n + 6 := by omega
  have e2 : (16 * (n : Int)).toNat = 16 * n := by omega
  rw [e1, e2]
  simp
theorem stepR_ok {st : List UInt8} {x : Nat × Int} (hx : x.1 < 18446744073709551616) (h : fitR x = true) : stepR (st, 0) x = (st ++ rangeB x, 0) := by
  simp only [fitR, Bool.and_eq_true, decide_eq_true_eq] at h
  unfold stepR rangeB
  rw [numW8 _ hx, numW_ok (.inr rfl) h.1 (by simp only [Nat.reduceMul, Nat.reducePow]; omega), numW_ok (.inr rfl) (by omega) (by simp only [Nat.reduceMul, Nat.reducePow]; omega)]
  simp [List.append_assoc]
theorem numW_dead {size : Nat} {n : Int} {st : List UInt8 × Int} (h : st.2 ≠ 0) : numW size n st = st := by unfold numW; rw [if_pos h]
theorem stepR_dead {st : List UInt8 × Int} {x : Nat × Int} (h : st.2 ≠ 0) : stepR st x = st := by
  unfold stepR
  rw [numW_dead h, numW_dead h, numW_dead h]
theorem stepR_bad {st : List UInt8} {x : Nat × Int} (hx : x.1 < 18446744073709551616) (h0 : 0 ≤ x.2) (h : fitR x = false) : (stepR (st, 0) x).2 = 3 := by
  simp only [fitR, Bool.and_eq_false_iff, decide_eq_false_iff_not] at h
  have e : numW 4 x.2 (st ++ be 8 x.1, 0) = (st ++ be 8 x.1, 3) := by
    unfold numW
    rw [if_neg (by simp), if_pos]
    simp only [Nat.reduceMul, Nat.reducePow, Nat.reduceSub]
    omega
  unfold stepR
  rw [numW8 _ hx, e, numW_dead (by simp)]
/-- The first k ranges, written. -/
def foldR (n : Nat) (l : List (Nat × Int)) : List UInt8 × Int := l.foldl stepR (headR n)
theorem foldR_snoc (n : Nat) (l : List (Nat × Int)) (x : Nat × Int) : foldR n (l ++ [x]) = stepR (foldR n l) x := by simp [foldR]
theorem foldR_inv {n : Nat} {l : List (Nat × Int)} (hn : n ≤ 32) (hl : ∀ x ∈ l, x.1 < 18446744073709551616) (h0 : ∀ x ∈ l, 0 ≤ x.2) :
    (l.all fitR = true ∧ foldR n l = (headB n ++ l.flatMap rangeB, 0)) ∨ (l.all fitR = false ∧ (foldR n l).2 = 3) := by
  have key : ∀ (l : List (Nat × Int)) (b : List UInt8), (∀ x ∈ l, x.1 < 18446744073709551616) → (∀ x ∈ l, 0 ≤ x.2) →
      (l.all fitR = true ∧ l.foldl stepR (b, 0) = (b ++ l.flatMap rangeB, 0)) ∨ (l.all fitR = false ∧ (l.foldl stepR (b, 0)).2 = 3) := by
    intro l
    induction l with
    | nil => intro b _ _; left; simp
    | cons x l ih =>
      intro b hl h0
      cases hf : fitR x with
      | true =>
        rw [List.foldl_cons, stepR_ok (hl x (by simp)) hf]
        rcases ih (b ++ rangeB x) (fun y hy => hl y (by simp [hy])) (fun y hy => h0 y (by simp [hy])) with ⟨h1, h2⟩ | ⟨h1, h2⟩
        · left; refine ⟨by simp [hf, h1], ?_⟩; rw [h2]; simp [List.append_assoc]
        · right; exact ⟨by simp [hf, h1], h2⟩
      | false =>
        right
        refine ⟨by simp [hf], ?_⟩
        have h3 := stepR_bad (st := b) (hl x (by simp)) (h0 x (by simp)) hf
        rw [List.foldl_cons]
        have hd : ∀ (l : List (Nat × Int)) (st : List UInt8 × Int), st.2 ≠ 0 → l.foldl stepR st = st := by
          intro l
          induction l with
          | nil => intro st _; rfl
          | cons y l ih => intro st h; rw [List.foldl_cons, stepR_dead h, ih st h]
        rw [hd _ _ (by rw [h3]; decide), h3]
  unfold foldR
  rw [headR_eq n hn]
  exact key l _ hl h0
theorem foldR_length (n : Nat) (l : List (Nat × Int)) : (foldR n l).1.length ≤ 8 + 16 * l.length := by
  unfold foldR
  have key : ∀ (l : List (Nat × Int)) (st : List UInt8 × Int), (l.foldl stepR st).1.length ≤ st.1.length + 16 * l.length := by
    intro l
    induction l with
    | nil => intro st; simp
    | cons x l ih =>
      intro st
      rw [List.foldl_cons]
      have h1 := ih (stepR st x)
      have h2 := numW_length 4 0 (numW 4 x.2 (numW 8 (wrap64 (x.1 : Int)) st))
      have h3 := numW_length 4 x.2 (numW 8 (wrap64 (x.1 : Int)) st)
      have h4 := numW_length 8 (wrap64 (x.1 : Int)) st
      unfold stepR at h1
      simp only [List.length_cons]
      unfold stepR
      omega
  have h := key l (headR n)
  have h2 := numW_length 4 0 (numW 2 (16 * (n : Int)) (numW 2 (16 * (n : Int) + 6) ([], 0)))
  have h3 := numW_length 2 (16 * (n : Int)) (numW 2 (16 * (n : Int) + 6) ([], 0))
  have h4 := numW_length 2 (16 * (n : Int) + 6) ([], 0)
  unfold headR at h ⊢
  simp only [List.length_nil] at h4
  omega
end Go.Proofs.YtpkljdjdapgmjaaDoor
