/- Plain laws on a command's bytes. -/
import Derived.Test.YtpkljdjdapgmjaaDoorCf
namespace Go.Proofs.YtpkljdjdapgmjaaDoor
set_option linter.unusedVariables false
set_option linter.unusedSimpArgs false

theorem putB_off {bs : List UInt8} {i size n j : Nat} (h : i + size ≤ bs.length) (hj : j < i ∨ i + size ≤ j) : (putB bs i size n)[j]? = bs[j]? := by
  have hl : (be size n).length = size := be_length _ _
  have hl' : (bs.take i).length = i := by rw [List.length_take]; omega
  unfold putB over
  rcases hj with hj | hj
  · rw [List.getElem?_append_left (by omega), List.getElem?_take_of_lt hj]
  · rw [List.getElem?_append_right (by omega), List.getElem?_append_right (by omega), List.getElem?_drop, hl, hl']
    congr 1; omega
/-- A byte under no field stays. -/
theorem runB_off {l : List (Nat × Nat × Nat)} {vs : List Nat} {j : Nat} (hl : ∀ p ∈ l, PlOk p ∧ (p.2.1 = 0 ∨ j < p.1 ∨ p.1 + p.2.1 ≤ j)) (k : Nat) {st st' : List UInt8 × Bool} (h0 : st.1.length = 16) (h : runB l vs k st = some st') : st'.1[j]? = st.1[j]? := by
  induction k generalizing st' with
  | zero => simp [runB] at h; subst h; rfl
  | succ k ih =>
    simp only [runB, Option.bind_eq_some_iff] at h
    obtain ⟨m, hm, hs⟩ := h
    have hml := runB_length (fun p hp => (hl p hp).1) k h0 hm
    have hi := ih hm
    unfold stepB at hs
    split at hs
    · injection hs with hs; subst hs; exact hi
    · rename_i hz
      split at hs
      · cases hs
      · split at hs
        · cases hs
        · injection hs with hs; subst hs
          have hok : PlOk (l.getD k (0, 0, 0)) ∧ ((l.getD k (0, 0, 0)).2.1 = 0 ∨ j < (l.getD k (0, 0, 0)).1 ∨ (l.getD k (0, 0, 0)).1 + (l.getD k (0, 0, 0)).2.1 ≤ j) := by
            by_cases hk : k < l.length
            · rw [List.getD_eq_getElem?_getD, List.getElem?_eq_getElem hk]; exact hl _ (List.getElem_mem hk)
            · rw [List.getD_eq_getElem?_getD, List.getElem?_eq_none (by omega)]; exact ⟨.inl rfl, .inl rfl⟩
          obtain ⟨h1, h2⟩ := hok
          rcases h1 with h | ⟨_, h, _⟩
          · exact absurd h hz
          · rcases h2 with h2 | h2
            · exact absurd h2 hz
            · exact (putB_off (by omega) h2).trans hi
theorem startB_length (op : Int) : (startB op).length = 16 := by simp [startB]
theorem startB_at (op : Int) (j : Nat) (h1 : 1 ≤ j) (h2 : j < 16) : (startB op)[j]? = some 0 := by
  unfold startB
  obtain ⟨m, rfl⟩ : ∃ m, j = m + 1 := ⟨j - 1, by omega⟩
  rw [List.getElem?_cons_succ, List.getElem?_replicate, if_pos (by omega)]
/-- What a command that can be built is. -/
theorem buildB_zero {c : Cmd} (h : (buildB c).1 = 0) : ∃ l, placesOf c.op = some l ∧ runB l c.vals 6 (startB c.op, false) = some ((buildB c).2, false) := by
  cases hp : placesOf c.op with
  | none => rw [buildB_none hp] at h; cases h
  | some l =>
    refine ⟨l, rfl, ?_⟩
    cases hr : runB l c.vals 6 (startB c.op, false) with
    | none => rw [buildB_stop hp hr] at h; cases h
    | some x =>
      obtain ⟨b, s⟩ := x
      cases s with
      | true => rw [buildB_strange hp hr] at h; cases h
      | false => rw [buildB_ok hp hr]
theorem buildB_one {c : Cmd} : (buildB c).1 = 1 ↔ placesOf c.op = none := by
  cases hp : placesOf c.op with
  | none => rw [buildB_none hp]; simp
  | some l =>
    cases hr : runB l c.vals 6 (startB c.op, false) with
    | none => rw [buildB_stop hp hr]; simp
    | some x =>
      obtain ⟨b, s⟩ := x
      cases s with
      | true => rw [buildB_strange hp hr]; simp
      | false => rw [buildB_ok hp hr]; simp
theorem buildB_len {c : Cmd} (h : (buildB c).1 = 0) : (buildB c).2.length = 16 := by
  obtain ⟨l, hp, hr⟩ := buildB_zero h
  exact runB_length (placesOf_ok hp).2 6 (startB_length _) hr
theorem sizeB_vals (op : Int) : sizeB op = 0 ∨ ((sizeB op = 6 ∨ sizeB op = 10 ∨ sizeB op = 12 ∨ sizeB op = 16) ∧ 0 ≤ op ∧ op ≤ 255) := by
  cases hp : placesOf op with
  | none => left; unfold sizeB; rw [if_pos hp]
  | some l =>
    right
    have hm := placesOf_mem hp
    obtain rfl | rfl | rfl | rfl | rfl | rfl | rfl | rfl | rfl | rfl | rfl | rfl | rfl | rfl := hm <;> decide
theorem sizeB_none (op : Int) : sizeB op = 0 ↔ placesOf op = none := by
  cases hp : placesOf op with
  | none => unfold sizeB; rw [if_pos hp]; simp
  | some l =>
    have hm := placesOf_mem hp
    constructor
    · intro h
      obtain rfl | rfl | rfl | rfl | rfl | rfl | rfl | rfl | rfl | rfl | rfl | rfl | rfl | rfl := hm <;> exact absurd h (by decide)
    · intro h; cases h
/-- Which places may hold what: all but byte 4 of RequestSense. -/
theorem rows_off : ∀ x ∈ rowsL, ∀ j : Nat, j < 16 → (j = 0 ∨ (sizeB x.1).toNat - 1 ≤ j) → (x.1 = 3 ∧ j = 4 ∨ j < 16 ∧ ∀ p ∈ x.2, p.2.1 = 0 ∨ j < p.1 ∨ p.1 + p.2.1 ≤ j) := by decide
theorem rows_off' {op : Int} {l : List (Nat × Nat × Nat)} (h : placesOf op = some l) (j : Nat) (hj : j < 16) (hk : j = 0 ∨ (sizeB op).toNat - 1 ≤ j) : op = 3 ∧ j = 4 ∨ ∀ p ∈ l, p.2.1 = 0 ∨ j < p.1 ∨ p.1 + p.2.1 ≤ j := by
  unfold placesOf at h
  obtain ⟨x, hx, rfl⟩ := Option.map_eq_some_iff.1 h
  have h1 := List.find?_some hx
  have h3 : x.1 = op := by simpa using h1
  subst h3
  rcases rows_off x (List.mem_of_find?_eq_some hx) j hj hk with h | h
  · exact .inl h
  · exact .inr h.2
theorem build_first {c : Cmd} (h : (buildB c).1 = 0) : (buildB c).2[0]? = some (UInt8.ofNat (toU c.op)) := by
  obtain ⟨l, hp, hr⟩ := buildB_zero h
  rcases rows_off' hp 0 (by omega) (.inl rfl) with h | h
  · omega
  · rw [runB_off (fun p hp' => ⟨(placesOf_ok hp).2 p hp', h p hp'⟩) 6 (startB_length _) hr]; rfl
theorem build_tail {c : Cmd} (h : (buildB c).1 = 0) (j : Nat) (h1 : 1 ≤ j) (hj : j < 16) (hk : (sizeB c.op).toNat - 1 ≤ j) : c.op = 3 ∧ j = 4 ∨ (buildB c).2[j]? = some 0 := by
  obtain ⟨l, hp, hr⟩ := buildB_zero h
  rcases rows_off' hp j (by omega) (.inr hk) with h | h
  · exact .inl h
  · right
    rw [runB_off (fun p hp' => ⟨(placesOf_ok hp).2 p hp', h p hp'⟩) 6 (startB_length _) hr]
    exact startB_at _ _ h1 hj
theorem op_byte {op : Int} (h : 0 ≤ op ∧ op ≤ 255) : ((UInt8.ofNat (toU op)).toNat : Int) = op := by
  rw [UInt8.toNat_ofNat']; unfold toU; omega
end Go.Proofs.YtpkljdjdapgmjaaDoor
