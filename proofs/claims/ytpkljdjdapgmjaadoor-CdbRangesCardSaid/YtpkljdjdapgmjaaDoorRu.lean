/- Plain laws of ranges: there and back. -/
import Derived.Test.YtpkljdjdapgmjaaDoorRs
import Derived.Test.YtpkljdjdapgmjaaDoorFz
namespace Go.Proofs.YtpkljdjdapgmjaaDoor
set_option linter.unusedVariables false
set_option linter.unusedSimpArgs false

theorem take_parts (d : List UInt8) (a b c : Nat) : d.take a ++ (d.drop a).take b ++ ((d.drop a).drop b).take c = d.take (a + b + c) := by
  rw [List.take_add (i := a + b) (j := c), List.take_add (i := a) (j := b), List.drop_drop]
theorem rangeB_elR (d : List UInt8) (h : 16 ≤ d.length) (hz : zR d = 0) : rangeB (elR d) = d.take 16 := by
  have e1 : be 8 (nb (d.take 8)) = d.take 8 := be_nb' _ 8 (by simp; omega)
  have e2 : be 4 (nb ((d.drop 8).take 4)) = (d.drop 8).take 4 := be_nb' _ 4 (by simp; omega)
  have e3 : be 4 0 = ((d.drop 8).drop 4).take 4 := by rw [← hz]; exact be_nb' _ 4 (by simp; omega)
  unfold rangeB elR
  dsimp only
  rw [Int.toNat_natCast, e1, e2, e3, take_parts]
theorem els_back (D : List UInt8) (m : Nat) (hl : D.length = 16 * m) (hz : zsR D m = true) : ∀ k, k ≤ m → (elsR D k).flatMap rangeB = D.take (16 * k)
  | 0, _ => by simp [elsR]
  | k + 1, hk => by
    have hzk : zR (D.drop (16 * k)) = 0 := by
      have := List.all_eq_true.1 hz k (List.mem_range.2 (by omega))
      simpa using this
    rw [elsR, List.flatMap_append, els_back D m hl hz k (by omega), List.flatMap_cons, List.flatMap_nil, List.append_nil, rangeB_elR _ (by simp; omega) hzk, show 16 * (k + 1) = 16 * k + 16 by omega, List.take_add]
theorem els_ok (D : List UInt8) : ∀ k, OkR (elsR D k) ∧ (elsR D k).all fitR = true
  | 0 => ⟨fun x hx => by simp [elsR] at hx, rfl⟩
  | k + 1 => by
    obtain ⟨h1, h2⟩ := els_ok D k
    have a1 := nb8 (D.drop (16 * k))
    have a2 := nb_small (size := 4) (bs := (D.drop (16 * k)).drop 8) (by omega)
    simp only [Nat.reducePow] at a2
    have hf : fitR (elR (D.drop (16 * k))) = true := by
      unfold fitR elR
      dsimp only
      rw [Bool.and_eq_true, decide_eq_true_eq, decide_eq_true_eq]
      omega
    refine ⟨?_, by rw [elsR, List.all_append, h2]; simp [hf]⟩
    intro x hx
    rw [elsR] at hx
    rcases List.mem_append.1 hx with h | h
    · exact h1 x h
    · simp only [List.mem_cons, List.not_mem_nil, or_false] at h
      subst h
      simp only [elR]
      omega
theorem rgB_okR (bs : List UInt8) : OkR (rgB bs).2 := by
  have h0 : OkR [] := fun x hx => by simp at hx
  unfold rgB
  split
  · exact h0
  · split
    · split
      · split
        · exact h0
        · exact (els_ok _ _).1
      · exact h0
    · exact h0
theorem rgB_len (bs : List UInt8) : (rgB bs).2.length ≤ 32 := by
  unfold rgB
  split
  · simp
  · split
    · split
      · split
        · simp
        · simp only [elsR_length]; omega
      · simp
    · simp
/-- What is read is written as the same bytes. -/
theorem rgB_back {bs : List UInt8} (h : (rgB bs).1 = 0) : prB (rgB bs).2 = (0, bs) := by
  by_cases h8 : bs.length < 8
  · rw [rgB_short h8] at h; cases h
  · by_cases hh : headOk bs
    · cases hz : zsR (bs.drop 8) ((bs.length - 8) / 16) with
      | false => rw [rgB_zero h8 hh hz] at h; cases h
      | true =>
        by_cases h32 : 32 < (bs.length - 8) / 16
        · rw [rgB_long h8 hh hz h32] at h; cases h
        · rw [rgB_ok h8 hh hz h32]
          obtain ⟨k1, k2, k3, k4⟩ := hh
          obtain ⟨m, hm⟩ : ∃ m, m = (bs.length - 8) / 16 := ⟨_, rfl⟩
          rw [← hm] at hz h32 ⊢
          have hlen : bs.length = 16 * m + 8 := by omega
          have e1 : be 2 (16 * m + 6) = bs.take 2 := by rw [show 16 * m + 6 = nb (bs.take 2) by omega]; exact be_nb' _ 2 (by simp; omega)
          have e2 : be 2 (16 * m) = (bs.drop 2).take 2 := by rw [show 16 * m = nb ((bs.drop 2).take 2) by omega]; exact be_nb' _ 2 (by simp; omega)
          have e3 : be 4 0 = ((bs.drop 2).drop 2).take 4 := by rw [← k4]; exact be_nb' _ 4 (by simp; omega)
          have hd : headB m = bs.take 8 := by unfold headB; rw [e1, e2, e3, take_parts]
          have he := els_back (bs.drop 8) m (by simp; omega) hz m (Nat.le_refl _)
          rw [List.take_of_length_le (by simp; omega)] at he
          have e : prB (elsR (bs.drop 8) m) = if (elsR (bs.drop 8) m).all fitR then (0, headB (elsR (bs.drop 8) m).length ++ (elsR (bs.drop 8) m).flatMap rangeB) else (3, []) := by
            unfold prB
            exact if_neg (by rw [elsR_length]; exact h32)
          dsimp only
          rw [e, if_pos (els_ok _ _).2, elsR_length, hd, he, List.take_append_drop]
    · rw [rgB_head h8 hh] at h; cases h

theorem drop_flat (l : List (Nat × Int)) : ∀ j, (l.flatMap rangeB).drop (16 * j) = (l.drop j).flatMap rangeB := by
  induction l with
  | nil => intro j; simp
  | cons x l ih =>
    intro j
    cases j with
    | zero => simp
    | succ j =>
      rw [List.flatMap_cons, List.drop_succ_cons, ← ih j, show 16 * (j + 1) = (rangeB x).length + 16 * j by rw [rangeB_length]; omega, List.drop_append, List.drop_eq_nil_of_le (by omega), List.nil_append, Nat.add_sub_cancel_left]
theorem el_of (x : Nat × Int) (r : List UInt8) (hx : x.1 < 18446744073709551616) (hf : fitR x = true) : elR (rangeB x ++ r) = x ∧ zR (rangeB x ++ r) = 0 := by
  simp only [fitR, Bool.and_eq_true, decide_eq_true_eq] at hf
  have l8 : (be 8 x.1).length = 8 := be_length _ _
  have l4 : ∀ n, (be 4 n).length = 4 := fun n => be_length _ _
  have h : rangeB x ++ r = be 8 x.1 ++ (be 4 x.2.toNat ++ (be 4 0 ++ r)) := by simp [rangeB, List.append_assoc]
  have t1 : (rangeB x ++ r).take 8 = be 8 x.1 := by rw [h]; exact List.take_left' l8
  have d1 : (rangeB x ++ r).drop 8 = be 4 x.2.toNat ++ (be 4 0 ++ r) := by rw [h]; exact List.drop_left' l8
  have t2 : (be 4 x.2.toNat ++ (be 4 0 ++ r)).take 4 = be 4 x.2.toNat := List.take_left' (l4 _)
  have d2 : (be 4 x.2.toNat ++ (be 4 0 ++ r)).drop 4 = be 4 0 ++ r := List.drop_left' (l4 _)
  have t3 : (be 4 0 ++ r).take 4 = be 4 0 := List.take_left' (l4 _)
  have p8 : (256 : Nat) ^ 8 = 18446744073709551616 := by decide
  have p4 : (256 : Nat) ^ 4 = 4294967296 := by decide
  constructor
  · unfold elR
    rw [t1, d1, t2, nb_be_lt 8 _ (by omega), nb_be_lt 4 _ (by omega)]
    refine Prod.ext rfl ?_
    show ((x.2.toNat : Nat) : Int) = x.2
    omega
  · unfold zR
    rw [d1, d2, t3, nb_be_lt 4 0 (by decide)]
theorem els_of (l : List (Nat × Int)) (hl : ∀ x ∈ l, x.1 < 18446744073709551616) (hf : l.all fitR = true) : ∀ k, k ≤ l.length → elsR (l.flatMap rangeB) k = l.take k ∧ zsR (l.flatMap rangeB) k = true
  | 0, _ => ⟨by simp [elsR], rfl⟩
  | k + 1, hk => by
    obtain ⟨h1, h2⟩ := els_of l hl hf k (by omega)
    have hd : (l.flatMap rangeB).drop (16 * k) = rangeB (l[k]'(by omega)) ++ (l.drop (k + 1)).flatMap rangeB := by
      rw [drop_flat, List.drop_eq_getElem_cons (by omega), List.flatMap_cons]
    obtain ⟨e1, e2⟩ := el_of (l[k]'(by omega)) ((l.drop (k + 1)).flatMap rangeB) (hl _ (List.getElem_mem _)) (List.all_eq_true.1 hf _ (List.getElem_mem _))
    constructor
    · rw [elsR, h1, hd, e1, take_snocR l k (by omega)]
    · rw [zsR_succ, h2, hd, e2]; rfl
theorem flat_length (l : List (Nat × Int)) : (l.flatMap rangeB).length = 16 * l.length := by
  induction l with
  | nil => rfl
  | cons x l ih => rw [List.flatMap_cons, List.length_append, ih, rangeB_length, List.length_cons]; omega
theorem prB_zero {l : List (Nat × Int)} (h : (prB l).1 = 0) : l.length ≤ 32 ∧ l.all fitR = true ∧ prB l = (0, headB l.length ++ l.flatMap rangeB) := by
  unfold prB at h ⊢
  split at h
  · cases h
  · rename_i h32
    rw [if_neg h32]
    split at h
    · rename_i hf
      rw [if_pos hf]
      exact ⟨by omega, hf, rfl⟩
    · cases h
theorem prB_len (l : List (Nat × Int)) : (prB l).2.length ≤ 520 := by
  unfold prB
  split
  · simp
  · split
    · rw [List.length_append, headB_length, flat_length]; omega
    · simp
/-- What is written is read as the same ranges. -/
theorem prB_back {l : List (Nat × Int)} (hl : OkR l) (h : (prB l).1 = 0) : rgB (prB l).2 = (0, l) := by
  obtain ⟨hn, hf, hp⟩ := prB_zero h
  rw [hp]
  dsimp only
  obtain ⟨n, hnn⟩ : ∃ n, n = l.length := ⟨_, rfl⟩
  rw [← hnn] at hn ⊢
  obtain ⟨D, hD⟩ : ∃ D, D = l.flatMap rangeB := ⟨_, rfl⟩
  have hDl : D.length = 16 * n := by rw [hD, flat_length, hnn]
  rw [← hD]
  have h8 : (headB n).length = 8 := headB_length n
  have hlen : (headB n ++ D).length = 16 * n + 8 := by rw [List.length_append, h8, hDl]; omega
  have hd8 : (headB n ++ D).drop 8 = D := List.drop_left' h8
  have hm : ((headB n ++ D).length - 8) / 16 = n := by omega
  have l2 : ∀ x, (be 2 x).length = 2 := fun x => be_length _ _
  have l4 : ∀ x, (be 4 x).length = 4 := fun x => be_length _ _
  have hh : headB n ++ D = be 2 (16 * n + 6) ++ (be 2 (16 * n) ++ (be 4 0 ++ D)) := by simp [headB, List.append_assoc]
  have t1 : (headB n ++ D).take 2 = be 2 (16 * n + 6) := by rw [hh]; exact List.take_left' (l2 _)
  have d1 : (headB n ++ D).drop 2 = be 2 (16 * n) ++ (be 4 0 ++ D) := by rw [hh]; exact List.drop_left' (l2 _)
  have t2 : (be 2 (16 * n) ++ (be 4 0 ++ D)).take 2 = be 2 (16 * n) := List.take_left' (l2 _)
  have d2 : (be 2 (16 * n) ++ (be 4 0 ++ D)).drop 2 = be 4 0 ++ D := List.drop_left' (l2 _)
  have t3 : (be 4 0 ++ D).take 4 = be 4 0 := List.take_left' (l4 _)
  have p2 : (256 : Nat) ^ 2 = 65536 := by decide
  have hhd : headOk (headB n ++ D) := by
    unfold headOk
    rw [t1, d1, t2, d2, t3, nb_be_lt 2 _ (by omega), nb_be_lt 2 _ (by omega), nb_be_lt 4 0 (by decide), hlen]
    omega
  obtain ⟨e1, e2⟩ := els_of l (fun x hx => (hl x hx).1) hf n (by omega)
  rw [← hD] at e1 e2
  rw [rgB_ok (by omega) hhd (by rw [hd8, hm]; exact e2) (by omega), hd8, hm, e1, hnn, List.take_length]
end Go.Proofs.YtpkljdjdapgmjaaDoor
