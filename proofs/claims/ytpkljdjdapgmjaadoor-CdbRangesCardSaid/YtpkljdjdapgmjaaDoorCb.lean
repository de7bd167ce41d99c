/- Contracts of cdb: values, and the step of Build. -/
import Derived.Test.YtpkljdjdapgmjaaDoorCa
import Derived.Test.YtpkljdjdapgmjaaDoorFp
namespace Go.Proofs.YtpkljdjdapgmjaaDoor
open Go.RowKit
set_option linter.unusedVariables false
set_option linter.unusedSimpArgs false

/-- A command, as numbers. -/
structure Cmd where
  op : Int
  service : Int
  page : Int
  vital : Bool
  kind : Int
  lba : Nat
  len : Int
/-- Its numbers fit their kinds. -/
structure Cmd.Ok (c : Cmd) : Prop where
  op : -9223372036854775808 ≤ c.op ∧ c.op ≤ 9223372036854775807
  service : -9223372036854775808 ≤ c.service ∧ c.service ≤ 9223372036854775807
  page : -9223372036854775808 ≤ c.page ∧ c.page ≤ 9223372036854775807
  kind : -9223372036854775808 ≤ c.kind ∧ c.kind ≤ 9223372036854775807
  lba : c.lba < 18446744073709551616
  len : -9223372036854775808 ≤ c.len ∧ c.len ≤ 9223372036854775807
def Cmd.val (c : Cmd) : Value := .agg #[.int .i64 c.op, .int .i64 c.service, .int .i64 c.page, .bool c.vital, .int .i64 c.kind, .int .u64 c.lba, .int .i64 c.len]
/-- A signed number as an unsigned one. -/
def toU (n : Int) : Nat := (n % 18446744073709551616).toNat
theorem toU_lt (n : Int) : toU n < 18446744073709551616 := by unfold toU; omega
theorem toU_wrap (n : Int) : IntKind.u64.wrap n = (toU n : Int) := by rw [IntKind.wrap_u64]; unfold toU; omega
/-- The values of its fields. -/
def Cmd.vals (c : Cmd) : List Nat := [toU c.service, if c.vital then 1 else 0, toU c.page, toU c.kind, c.lba, toU c.len]
def numsU (l : List Nat) : List Value := l.map fun (n : Nat) => .int .u64 (n : Int)

set_option maxHeartbeats 400000 in
theorem values_c (c : Cmd) (w : World) :
    Calls Tryd.prog 34 #[c.val] w fun e w' => e = .returned (.agg (numsU c.vals).toArray) ∧ Upd [] w w' := by
  obtain ⟨op, service, page, vital, kind, lba, len⟩ := c
  have k1 := toU_wrap service
  have k2 := toU_wrap page
  have k3 := toU_wrap kind
  have k4 := toU_wrap len
  unfold Cmd.val
  dsimp only
  cases vital
  all_goals
    go_enter Tryd.func34, Tryd.ntmps34
    go_wp2
    refine bodyPost_ret (v := .agg (numsU (Cmd.vals ⟨op, service, page, _, kind, lba, len⟩)).toArray) (by simp [results, Tryd.results34, go_sem, numsU, Cmd.vals]) rfl ⟨rfl, (((Upd.refl _ _).alloc _).alloc _).alloc _⟩

/-- One field is laid into a command's bytes; the second part: was there a number for a field that there is not? -/
def stepB (p : Nat × Nat × Nat) (n : Nat) (st : List UInt8 × Bool) : Option (List UInt8 × Bool) :=
  if p.2.1 = 0 then some (st.1, st.2 || n != 0)
  else if 0 < p.2.2 ∧ n / 2 ^ p.2.2 ≠ 0 then none
  else if fitsB n p.2.1 = false then none
  else some (putB st.1 p.1 p.2.1 n, st.2)
/-- The first k fields. -/
def runB (l : List (Nat × Nat × Nat)) (vs : List Nat) : Nat → List UInt8 × Bool → Option (List UInt8 × Bool)
  | 0, st => some st
  | k + 1, st => (runB l vs k st).bind fun st => stepB (l.getD k (0, 0, 0)) (vs.getD k 0) st
/-- A command's bytes ahead of its fields. -/
def startB (op : Int) : List UInt8 := UInt8.ofNat (toU op) :: List.replicate 15 0
/-- What Build answers: the error, the bytes. -/
def buildB (c : Cmd) : Int × List UInt8 :=
  match placesOf c.op with
  | none => (1, [])
  | some l => match runB l c.vals 6 (startB c.op, false) with
    | none => (3, [])
    | some (b, true) => (11, [])
    | some (b, false) => (0, b)
/-- A place that can be. -/
def PlOk (p : Nat × Nat × Nat) : Prop := p.2.1 = 0 ∨ ((p.2.1 = 1 ∨ p.2.1 = 2 ∨ p.2.1 = 4 ∨ p.2.1 = 8) ∧ p.1 + p.2.1 ≤ 16 ∧ p.2.2 ≤ 8)
instance (p : Nat × Nat × Nat) : Decidable (PlOk p) := by unfold PlOk; infer_instance
theorem rowsL_ok : ∀ x ∈ rowsL, x.2.length = 6 ∧ ∀ p ∈ x.2, PlOk p := by decide
theorem placesOf_ok {op : Int} {l : List (Nat × Nat × Nat)} (h : placesOf op = some l) : l.length = 6 ∧ ∀ p ∈ l, PlOk p := by
  unfold placesOf at h
  obtain ⟨x, hx, rfl⟩ := Option.map_eq_some_iff.1 h
  exact rowsL_ok x (List.mem_of_find?_eq_some hx)
theorem placeCells_at (l : List (Nat × Nat × Nat)) (k : Nat) (h : k < l.length) : (placeCells l)[3 * k]? = some (.int .i64 (l[k].1 : Int)) ∧ (placeCells l)[3 * k + 1]? = some (.int .i64 (l[k].2.1 : Int)) ∧ (placeCells l)[3 * k + 2]? = some (.int .i64 (l[k].2.2 : Int)) := by
  induction l generalizing k with
  | nil => simp at h
  | cons p l ih =>
    cases k with
    | zero => simp [placeCells]
    | succ k =>
      have := ih k (by simpa using h)
      simp only [placeCells, List.flatMap_cons, List.cons_append, List.nil_append] at this ⊢
      have e : 3 * (k + 1) = 3 * k + 1 + 1 + 1 := by omega
      simpa [e] using this
theorem runB_length {l : List (Nat × Nat × Nat)} {vs : List Nat} (hl : ∀ p ∈ l, PlOk p) (k : Nat) {st st' : List UInt8 × Bool} (h0 : st.1.length = 16) (h : runB l vs k st = some st') : st'.1.length = 16 := by
  induction k generalizing st' with
  | zero => simp [runB] at h; subst h; exact h0
  | succ k ih =>
    simp only [runB, Option.bind_eq_some_iff] at h
    obtain ⟨m, hm, hs⟩ := h
    have hml := ih hm
    unfold stepB at hs
    split at hs
    · injection hs with hs; subst hs; exact hml
    · rename_i hz
      split at hs
      · cases hs
      · split at hs
        · cases hs
        · injection hs with hs; subst hs
          have hok : PlOk (l.getD k (0, 0, 0)) := by
            by_cases hk : k < l.length
            · rw [List.getD_eq_getElem?_getD, List.getElem?_eq_getElem hk]; exact hl _ (List.getElem_mem hk)
            · rw [List.getD_eq_getElem?_getD, List.getElem?_eq_none (by omega)]; left; rfl
          rcases hok with h | ⟨_, h, _⟩
          · exact absurd h hz
          · exact (putB_length (by omega)).trans hml
theorem vals_lt (c : Cmd) (hc : c.Ok) (k : Nat) : c.vals.getD k 0 < 18446744073709551616 := by
  have h1 := toU_lt c.service
  have h2 := toU_lt c.page
  have h3 := toU_lt c.kind
  have h4 := toU_lt c.len
  have h5 := hc.lba
  by_cases hk : k < 6
  · obtain rfl | rfl | rfl | rfl | rfl | rfl : k = 0 ∨ k = 1 ∨ k = 2 ∨ k = 3 ∨ k = 4 ∨ k = 5 := by omega
    all_goals (simp only [Cmd.vals, List.getD_cons_zero, List.getD_cons_succ]; first | assumption | (split <;> omega))
  · rw [List.getD_eq_getElem?_getD, List.getElem?_eq_none (by simp [Cmd.vals]; omega)]
    simp
theorem bne_cast (n : Nat) : ((n : Int) != 0) = (n != 0) := by
  rw [Bool.eq_iff_iff, bne_iff_ne, bne_iff_ne]; omega
theorem toU_byte (n : Int) : ((toU n : Nat) : Int) % 256 = n % 256 := by unfold toU; omega
theorem runB_stop {l : List (Nat × Nat × Nat)} {vs : List Nat} {st : List UInt8 × Bool} {k m : Nat} (h : runB l vs k st = none) (hk : k ≤ m) : runB l vs m st = none := by
  induction m with
  | zero => have : k = 0 := by omega
            subst this; exact h
  | succ m ih =>
    by_cases e : k = m + 1
    · subst e; exact h
    · simp only [runB, ih (by omega), Option.bind_none]
theorem buildB_none {c : Cmd} (h : placesOf c.op = none) : buildB c = (1, []) := by unfold buildB; rw [h]
theorem buildB_stop {c : Cmd} {l : List (Nat × Nat × Nat)} (hp : placesOf c.op = some l) (h : runB l c.vals 6 (startB c.op, false) = none) : buildB c = (3, []) := by
  unfold buildB; rw [hp]; dsimp only; rw [h]
theorem buildB_strange {c : Cmd} {l : List (Nat × Nat × Nat)} {b : List UInt8} (hp : placesOf c.op = some l) (h : runB l c.vals 6 (startB c.op, false) = some (b, true)) : buildB c = (11, []) := by
  unfold buildB; rw [hp]; dsimp only; rw [h]
theorem buildB_ok {c : Cmd} {l : List (Nat × Nat × Nat)} {b : List UInt8} (hp : placesOf c.op = some l) (h : runB l c.vals 6 (startB c.op, false) = some (b, false)) : buildB c = (0, b) := by
  unfold buildB; rw [hp]; dsimp only; rw [h]
end Go.Proofs.YtpkljdjdapgmjaaDoor
