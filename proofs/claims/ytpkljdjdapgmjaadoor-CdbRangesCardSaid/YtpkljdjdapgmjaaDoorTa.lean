/- What a row's laid variables give: a type made of numbers and bools, of structs and arrays of such, reads as its cells. No program in sight. -/
import Derived.WalkKit
import Derived.ProofKit
import Derived.OpenShut
import Derived.Deep.DeepHandedRow
import Derived.Lib.LaidTab
import Derived.Deep.Fields
namespace Go.Proofs.YtpkljdjdapgmjaaDoor
open Go Go.ChangeShapes Go.WideShapes Go.ChangeAt Go.RowKit
set_option linter.unusedVariables false
set_option linter.unusedSimpArgs false

/-- The cells of some data, one behind the other. -/
def flatAll (f : DataW Unit → Option (List Value)) : List (DataW Unit) → Option (List Value)
  | [] => some []
  | d :: ds => match f d, flatAll f ds with
    | some a, some b => some (a ++ b)
    | _, _ => none
/-- The cells of a datum of numbers alone. -/
def flat : Nat → DataW Unit → Option (List Value)
  | _ + 1, .lit (.int k n) => some [.int k n]
  | m + 1, .agg ds => flatAll (flat m) ds
  | _, _ => none
/-- A datum of type t with numbers alone has just these cells. -/
def LitTy (P : Program) (w : World) (t : TypeId) : Prop := ∀ (enc : TypeId × Value → Unit) (base : Nat) (sp : Nat → Bool) (held : Bool) (fuel : Nat) (cs : List Value) (d : DataW Unit) (p : List MemPlace) (vs : List Value) (m : Nat),
  DataW.trod enc P w base sp held fuel t cs = some (d, p) → flat m d = some vs → cs = vs
theorem litTy_int {P : Program} {w : World} {t : TypeId} {k : IntKind} (ht : P.underlying t = some (.int k)) : LitTy P w t := by
  intro enc base sp held fuel cs d p vs m h hf
  obtain ⟨n, rfl, he, _⟩ := DataW.trod_int ht h
  injection he with e1 e2
  subst e1
  cases m with
  | zero => simp [flat] at hf
  | succ m => simpa [flat] using hf
theorem flatAll_cons {f : DataW Unit → Option (List Value)} {d : DataW Unit} {ds : List (DataW Unit)} {vs : List Value} (h : flatAll f (d :: ds) = some vs) : ∃ a b, f d = some a ∧ flatAll f ds = some b ∧ vs = a ++ b := by
  unfold flatAll at h
  cases ha : f d with
  | none => rw [ha] at h; cases h
  | some a =>
    cases hb : flatAll f ds with
    | none => rw [ha, hb] at h; cases h
    | some b =>
      rw [ha, hb] at h
      exact ⟨a, b, rfl, rfl, by injection h with h; exact h.symm⟩
theorem flat_pieces (g : DataW Unit → Option (List Value)) (s : Nat) : ∀ (xs : List (DataW Unit × List MemPlace)) (cs vs : List Value), cs.length = xs.length * s →
    (∀ (i : Nat) (hi : i < xs.length) (v : List Value), g (xs[i]).1 = some v → (cs.drop (i * s)).take s = v) → flatAll g (xs.map (·.1)) = some vs → cs = vs
  | [], cs, vs, hl, _, h => by
    simp [flatAll] at h hl
    subst h; exact hl
  | x :: xs, cs, vs, hl, hp, h => by
    obtain ⟨a, b, ha, hb, rfl⟩ := flatAll_cons h
    have h0 := hp 0 (by simp) a ha
    have h1 := flat_pieces g s xs (cs.drop s) b (by simp only [List.length_cons] at hl; rw [List.length_drop, hl, Nat.add_mul]; omega) (fun i hi v hv => by
      have := hp (i + 1) (by simp; omega) v hv
      rw [List.drop_drop]
      rw [← this]
      congr 2
      rw [Nat.add_mul]; omega) hb
    rw [← h1, ← h0]
    simp
theorem litTy_array {P : Program} {w : World} {t e : TypeId} {n : Nat} (ht : P.underlying t = some (.array n e)) (hc : P.cellsOf t = n * P.cellsOf e) (he : LitTy P w e) : LitTy P w t := by
  intro enc base sp held fuel cs d p vs m' h hf
  obtain ⟨xs, q, _, hx, hl, hxl, hi⟩ := DataW.trod_array ht h
  injection hx with e1 e2
  subst e1
  obtain ⟨m, rfl⟩ : ∃ m, m' = m + 1 := by
    cases m' with
    | zero => simp [flat] at hf
    | succ m => exact ⟨m, rfl⟩
  rw [flat] at hf
  refine flat_pieces (flat m) (P.cellsOf e) xs cs vs (by rw [hl, hc, hxl]) (fun i hlt v hv => ?_) hf
  have := hi i (by omega)
  rw [List.getElem?_eq_getElem hlt] at this
  exact he enc base sp held q _ _ _ v m this hv
/-- The fields lie one behind the other. -/
def Tiles (P : Program) : Nat → List Field → Nat → Prop
  | o, [], n => o = n
  | o, f :: fs, n => f.offset = o ∧ Tiles P (o + P.cellsOf f.type) fs n
theorem flat_fields {P : Program} (g : DataW Unit → Option (List Value)) : ∀ (fs : List Field) (xs : List (DataW Unit × List MemPlace)) (o n : Nat) (cs vs : List Value), cs.length = n → Tiles P o fs n → xs.length = fs.length →
    (∀ (i : Nat) (f : Field) (x : DataW Unit × List MemPlace), fs[i]? = some f → xs[i]? = some x → ∀ v, g x.1 = some v → (cs.drop f.offset).take (P.cellsOf f.type) = v) → flatAll g (xs.map (·.1)) = some vs → cs.drop o = vs
  | [], xs, o, n, cs, vs, hl, ht, hx, _, h => by
    obtain rfl : xs = [] := List.eq_nil_of_length_eq_zero (by simpa using hx)
    simp [flatAll] at h
    simp only [Tiles] at ht
    subst h; subst ht
    rw [← hl]; simp
  | f :: fs, [], o, n, cs, vs, hl, ht, hx, _, h => by simp at hx
  | f :: fs, x :: xs, o, n, cs, vs, hl, ht, hx, hp, h => by
    obtain ⟨a, b, ha, hb, rfl⟩ := flatAll_cons h
    obtain ⟨h1, h2⟩ := ht
    have h3 := hp 0 f x rfl rfl a ha
    have h4 := flat_fields g fs xs _ n cs b hl h2 (by simpa using hx) (fun i f' y hg hy => hp (i + 1) f' y (by simpa using hg) (by simpa using hy)) hb
    rw [h1] at h3
    rw [← h3, ← h4, ← List.drop_drop, List.take_append_drop]
theorem litTy_struct {P : Program} {w : World} {t : TypeId} {fs : Array Field} (ht : P.underlying t = some (.struct fs)) (hc : Tiles P 0 fs.toList (P.cellsOf t)) (hf : ∀ (i : Nat) (f : Field), fs[i]? = some f → LitTy P w f.type) : LitTy P w t := by
  intro enc base sp held fuel cs d p vs m' h hfl
  obtain ⟨xs, q, _, hx, hl, hxl, hi⟩ := DataW.trod_struct ht h
  injection hx with e1 e2
  subst e1
  obtain ⟨m, rfl⟩ : ∃ m, m' = m + 1 := by
    cases m' with
    | zero => simp [flat] at hfl
    | succ m => exact ⟨m, rfl⟩
  rw [flat] at hfl
  have := flat_fields (flat m) fs.toList xs 0 _ cs vs hl hc (by simpa using hxl) (fun i f x hfi hxi v hv => ?_) hfl
  · simpa using this
  · have hfi' : fs[i]? = some f := by simpa using hfi
    have h1 := hi i f hfi'
    rw [hxi] at h1
    exact hf i f hfi' enc base sp held q _ _ _ v m h1 hv

/-- Reading a type of scalars does not look at the world. -/
def StillTy (P : Program) (t : TypeId) : Prop := ∀ {H : Type} (enc : TypeId × Value → H) (w w' : World) (base base' : Nat) (sp sp' : Nat → Bool) (held held' : Bool) (fuel : Nat) (cs : List Value),
  DataW.trod enc P w base sp held fuel t cs = DataW.trod enc P w' base' sp' held' fuel t cs
theorem still_int {P : Program} {t : TypeId} {k : IntKind} (ht : P.underlying t = some (.int k)) : StillTy P t := by
  intro H enc w w' base base' sp sp' held held' fuel cs
  cases fuel with
  | zero => rfl
  | succ n =>
    unfold DataW.trod
    rw [ht]
    match cs with
    | [] => rfl
    | [v] => cases v <;> rfl
    | v :: _ :: _ => cases v <;> rfl
theorem still_bool {P : Program} {t : TypeId} (ht : P.underlying t = some .bool) : StillTy P t := by
  intro H enc w w' base base' sp sp' held held' fuel cs
  cases fuel with
  | zero => rfl
  | succ n =>
    unfold DataW.trod
    rw [ht]
    match cs with
    | [] => rfl
    | [v] => cases v <;> rfl
    | v :: _ :: _ => cases v <;> rfl
theorem mapM_congr' {α β : Type} {f g : α → Option β} : ∀ (l : List α), (∀ a ∈ l, f a = g a) → l.mapM f = l.mapM g
  | [], _ => rfl
  | a :: l, h => by
    simp only [List.mapM_cons]
    rw [h a (by simp), mapM_congr' l fun b hb => h b (by simp [hb])]
theorem still_struct {P : Program} {t : TypeId} {fs : Array Field} (ht : P.underlying t = some (.struct fs)) (hf : ∀ f ∈ fs.toList, StillTy P f.type) : StillTy P t := by
  intro H enc w w' base base' sp sp' held held' fuel cs
  cases fuel with
  | zero => rfl
  | succ n =>
    unfold DataW.trod
    rw [ht]
    have e : (fs.toList.mapM fun f => DataW.trod enc P w base sp held n f.type ((cs.drop f.offset).take (P.cellsOf f.type))) = fs.toList.mapM fun f => DataW.trod enc P w' base' sp' held' n f.type ((cs.drop f.offset).take (P.cellsOf f.type)) :=
      mapM_congr' _ fun f hm => hf f hm enc w w' base base' sp sp' held held' n _
    simp only [e]
theorem StillTy.Trod {P : Program} {t : TypeId} (h : StillTy P t) {H : Type} {enc : TypeId × Value → H} {w : World} {base : Nat} {sp : Nat → Bool} {held : Bool} {v : Value} {d : DataW H} {p : List MemPlace} (hd : DataW.Trod enc P w base sp held t v d p) (w' : World) (base' : Nat) (sp' : Nat → Bool) (held' : Bool) :
    DataW.Trod enc P w' base' sp' held' t v d p := by
  obtain ⟨n, hn⟩ := hd
  exact ⟨n, by rw [← h enc w w' base base' sp sp' held held' n]; exact hn⟩
/-- A struct of fields of one cell each. -/
def oneTy (P : Program) (t : TypeId) : Bool := match P.underlying t with
  | some (.struct fs) => Deep.oneCellFields P fs && P.cellsOf t == fs.size
  | _ => false
/-- A struct of fields of one cell each, field by field. -/
theorem struct_cells {H : Type} {enc : TypeId × Value → H} {P : Program} {w : World} {base : Nat} {sp : Nat → Bool} {held : Bool} {fuel : Nat} {t : TypeId} {cs : List Value} {x : DataW H × List MemPlace} {fs : Array Field} (hs : P.underlying t = some (.struct fs)) (ho : oneTy P t = true)
    (h : DataW.trod enc P w base sp held fuel t cs = some x) : ∃ (xs : List (DataW H × List MemPlace)) (n : Nat), x = (.agg (xs.map (·.1)), xs.flatMap (·.2)) ∧ cs.length = fs.size ∧ xs.length = fs.size ∧
      ∀ (i : Nat) (f : Field), fs[i]? = some f → DataW.trod enc P w base sp held n f.type [cs.getD i undef] = xs[i]? := by
  unfold oneTy at ho
  rw [hs] at ho
  simp only [Bool.and_eq_true, beq_iff_eq] at ho
  obtain ⟨hone, hC⟩ := ho
  obtain ⟨xs, n, _, rfl, hl, hxl, hi⟩ := DataW.trod_struct hs h
  rw [hC] at hl
  refine ⟨xs, n, rfl, hl, hxl, fun i f hf => ?_⟩
  obtain ⟨ho, hc1⟩ := Deep.hone_of hone i f hf
  have hlt : i < fs.size := (Array.getElem?_eq_some_iff.1 hf).1
  have g := hi i f hf
  rw [ho, hc1, Deep.take1_drop cs i undef (by omega)] at g
  exact g
theorem arr7 (cs : Array Value) (h : cs.size = 7) : ∃ a b c d e f g, cs = #[a, b, c, d, e, f, g] := by
  obtain ⟨l⟩ := cs
  match l, h with
  | [a, b, c, d, e, f, g], _ => exact ⟨a, b, c, d, e, f, g, rfl⟩
theorem list7 {α : Type} (l : List α) (h : l.length = 7) : ∃ a b c d e f g, l = [a, b, c, d, e, f, g] := by
  match l, h with
  | [a, b, c, d, e, f, g], _ => exact ⟨a, b, c, d, e, f, g, rfl⟩
end Go.Proofs.YtpkljdjdapgmjaaDoor
