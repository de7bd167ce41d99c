/- A law's arguments: slices opened, everything read again behind the call, the law's post. -/
import Derived.Test.YtpkljdjdapgmjaaDoorFm
import Derived.Test.YtpkljdjdapgmjaaDoorTa
import Derived.SizedLaws
import Derived.ChangeStays
namespace Go.Proofs.YtpkljdjdapgmjaaDoor
open Go Go.ChangeShapes Go.WideShapes Go.ChangeAt Go.RowKit
set_option linter.unusedVariables false
set_option linter.unusedSimpArgs false
set_option maxRecDepth 100000

/-! ### Behind the call -/
theorem laidOutP : laidOutB Tryd.prog = true := by kernel_rfl
theorem mapsRowP : mapsRowed Tryd.prog = true := by kernel_rfl
theorem sliceCellsP : ((List.range Tryd.prog.types.size).all fun t => match Tryd.prog.underlying t with | some (.slice e) => decide (0 < Tryd.prog.cellsOf e) | _ => true) = true := by kernel_rfl
theorem trod_again {H : Type} {enc : TypeId × Value → H} {w w' : World} {t : TypeId} {v : Value} {d : DataW H} {p : List MemPlace} (ht : t < Tryd.prog.types.size) (h : DataW.Trod enc Tryd.prog w 0 (fun _ => true) true t v d p) (hu : Upd [] w w') (sp : Nat → Bool) (hs : ∀ q ∈ p, sp q.block = true) :
    DataW.Trod enc Tryd.prog w' 0 sp true t v d p := by
  obtain ⟨n, h⟩ := h
  refine ⟨n, DataW.trod_stays (kids_rows laidOutP mapsRowP) (fun {t e} h1 h2 => ?_) (fun h => by cases h) ht h (fun q hq => ?_) hs⟩
  · have := List.all_eq_true.1 sliceCellsP t (List.mem_range.2 h1)
    rw [h2] at this
    simpa using this
  · have hlt := DataW.trod_lt n t _ _ h q hq
    cases q with
    | cell b off => exact World.cell?_of_block (w := w) (a := ⟨b, off, none⟩) (hu.block b hlt (by simp))
    | map b => exact hu.block b hlt (by simp)
theorem trodAll_again {H : Type} {enc : TypeId × Value → H} {w w' : World} (hu : Upd [] w w') (sp : Nat → Bool) : ∀ (ts : List TypeId) (vs : List Value) (ds : List (DataW H)) (p : List MemPlace), (∀ t ∈ ts, t < Tryd.prog.types.size) →
    DataW.TrodAll enc Tryd.prog w 0 (fun _ => true) true ts vs ds p → (∀ q ∈ p, sp q.block = true) → DataW.TrodAll enc Tryd.prog w' 0 sp true ts vs ds p
  | [], [], [], p, _, h, _ => h
  | t :: ts, v :: vs, d :: ds, p, ht, h, hs => by
    obtain ⟨p1, p2, h1, h2, rfl⟩ := h
    exact ⟨p1, p2, trod_again (ht t (by simp)) h1 hu sp (fun q hq => hs q (by simp [hq])), trodAll_again hu sp ts vs ds p2 (fun t h => ht t (by simp [h])) h2 (fun q hq => hs q (by simp [hq])), rfl⟩
  | [], _ :: _, _, _, _, h, _ => h.elim
  | [], [], _ :: _, _, _, h, _ => h.elim
  | _ :: _, [], _, _, _, h, _ => h.elim
  | _ :: _, _ :: _, [], _, _, h, _ => h.elim
/-- A law has answered true, and only new memory has been written: what its row asks. -/
theorem post_ok {H : Type} {enc : TypeId × Value → H} {f : Func} {s : ChangeSpec} {W W' : World} {args : Array Value} {ds gs : List (DataW H)} {before : List MemPlace} (hv : s.vars = []) (hr : f.resultTypes = #[4]) (hp : ∀ t ∈ f.params.toList, t < Tryd.prog.types.size)
    (hW : DataW.Whole enc Tryd.prog f.params.toList s.vars false W args.toList ds gs before) (h1 : (s.fn H ds).results = [.lit (.bool true)]) (h2 : (s.fn H ds).args = ds) (h3 : (s.fn H ds).vars = []) (hu : Upd [] W W') :
    s.post enc Tryd.prog f false true false false W args (.bool true) W' := by
  have hW' := hW
  have hlt := hW.lt
  obtain ⟨p, q, hA, hV, rfl, _, _⟩ := hW
  rw [hv] at hV
  obtain ⟨rfl, rfl⟩ := trodVars_none hV
  simp only [List.append_nil] at hW' hlt
  refine ⟨ds, [], p, [], p, [], hW', ?_, ?_, ?_, hu.below.frame _, fun h => by cases h⟩
  · rw [List.append_nil, h1, hr]
    exact trodAll_mk1 (shut_bool Tryd.underlying4 _)
  · rw [List.append_nil, h2]
    exact trodAll_again hu _ _ _ _ _ hp hA (fun q hq => by simpa using hlt q hq)
  · rw [List.append_nil, h3, hv]
    rfl

/-! ### Slices that come in -/
theorem flat_len (C : Nat → List Value) (s : Nat) : ∀ n, (∀ i, i < n → (C i).length = s) → ((List.range n).flatMap C).length = n * s
  | 0, _ => by simp
  | n + 1, h => by
    rw [List.range_succ, List.flatMap_append, List.length_append, flat_len C s n fun i hi => h i (by omega)]
    simp [h n (by omega), Nat.add_mul]
theorem flat_piece (C : Nat → List Value) (s : Nat) : ∀ n, (∀ i, i < n → (C i).length = s) → ∀ i, i < n → (((List.range n).flatMap C).drop (i * s)).take s = C i
  | 0, _, i, hi => by omega
  | n + 1, h, i, hi => by
    have hl := flat_len C s n fun i hi => h i (by omega)
    rw [List.range_succ, List.flatMap_append]
    by_cases e : i = n
    · subst e
      rw [← hl, List.drop_left]
      simp only [List.flatMap_cons, List.flatMap_nil, List.append_nil]
      exact List.take_of_length_le (by rw [h i (by omega)]; exact Nat.le_refl _)
    · have hle : i * s + s ≤ n * s := by rw [← Nat.succ_mul]; exact Nat.mul_le_mul_right s (by omega)
      rw [List.drop_append_of_le_length (by omega), List.take_append_of_le_length (by rw [List.length_drop, hl]; omega)]
      exact flat_piece C s n (fun i hi => h i (by omega)) i (by omega)
theorem piece_get (xs : List Value) (s j : Nat) (hs : 0 < s) : ((xs.drop (j / s * s)).take s)[j % s]? = xs[j]? := by
  rw [List.getElem?_take_of_lt (Nat.mod_lt _ hs), List.getElem?_drop]
  congr 1
  have := Nat.div_add_mod j s
  rw [Nat.mul_comm] at this
  exact this
/-- A slice that is read: its cells, and what each element reads as. -/
theorem rd_open {H : Type} {enc : TypeId × Value → H} {P : Program} {w : World} {base : Nat} {sp : Nat → Bool} {held : Bool} {fuel : Nat} {t e : TypeId} {v : Value} {x : DataW H × List MemPlace} (ht : P.underlying t = some (.slice e)) (hz : 0 < P.cellsOf e)
    (h : DataW.trod enc P w base sp held fuel t [v] = some x) : ∃ (n : Nat) (xs : List Value) (el rest : List (DataW H)), Rd w v (P.cellsOf e) n xs ∧ el.length = n ∧ (x.1 = .nil ∧ n = 0 ∨ x.1 = .slice el rest) ∧
      ∀ i, i < n → ∃ m y, DataW.trod enc P w base sp held m e ((xs.drop (i * P.cellsOf e)).take (P.cellsOf e)) = some y ∧ el[i]? = some y.1 := by
  rcases DataW.trod_slice ht h with ⟨h0, rfl⟩ | ⟨a, len, cap, elems, rest, m, _, h0, rfl, hb, hl, hm, hlen, hel, _⟩
  · injection h0 with h0 _
    subst h0
    exact ⟨0, [], [], [], Rd.nil w _, rfl, .inl ⟨rfl, rfl⟩, fun i hi => by omega⟩
  · injection h0 with h0 _
    subst h0
    have each : ∀ i, i < len → ∃ cs y, cs.length = P.cellsOf e ∧ (∀ j, j < P.cellsOf e → w.cell? ((a.add (i * P.cellsOf e)).add j) = cs[j]?) ∧ DataW.trod enc P w base sp held m e cs = some y ∧ elems[i]? = some y := by
      intro i hi
      have h1 := hel i hi
      rw [List.getElem?_eq_getElem (by omega)] at h1 ⊢
      obtain ⟨cs, h2, h3⟩ := Option.bind_eq_some_iff.1 h1
      obtain ⟨_, h4, h5⟩ := World.cells?_some h2
      exact ⟨cs, _, h4, h5, h3, rfl⟩
    obtain ⟨C, hC⟩ : ∃ C : Nat → List Value, ∀ i, i < len → ∃ y, (C i).length = P.cellsOf e ∧ (∀ j, j < P.cellsOf e → w.cell? ((a.add (i * P.cellsOf e)).add j) = (C i)[j]?) ∧ DataW.trod enc P w base sp held m e (C i) = some y ∧ elems[i]? = some y :=
      ⟨fun i => if hi : i < len then (each i hi).choose else [], fun i hi => by simp only [dif_pos hi]; exact (each i hi).choose_spec⟩
    have hCl : ∀ i, i < len → (C i).length = P.cellsOf e := fun i hi => (hC i hi).choose_spec.1
    have hxl := flat_len C (P.cellsOf e) len hCl
    simp only [maxLen] at hm
    refine ⟨len, (List.range len).flatMap C, elems.map (·.1), rest.map (·.1), ⟨hxl, by omega, some a, cap, rfl, hl, by omega, by simp, fun j u hj => ?_⟩, by simpa using hlen, .inr rfl, fun i hi => ?_⟩
    · have hjl : j < len * P.cellsOf e := by rw [← hxl]; exact (List.getElem?_eq_some_iff.1 hj).1
      have hi : j / P.cellsOf e < len := by rw [Nat.div_lt_iff_lt_mul hz]; exact hjl
      have hr := Nat.mod_lt j hz
      obtain ⟨y, _, h2, _, _⟩ := hC _ hi
      have h3 := h2 _ hr
      rw [← flat_piece C (P.cellsOf e) len hCl _ hi, piece_get _ _ _ hz, hj] at h3
      have e0 : (a.add (j / P.cellsOf e * P.cellsOf e)).add (j % P.cellsOf e) = a.add j := by
        have := Nat.div_add_mod j (P.cellsOf e)
        rw [Nat.mul_comm] at this
        unfold Addr.add
        by_cases h1 : j / P.cellsOf e * P.cellsOf e = 0 <;> by_cases h2 : j % P.cellsOf e = 0 <;> simp [h1, h2] <;> (try split) <;> simp_all <;> omega
      rw [e0] at h3
      have hpos : 0 < len := Nat.lt_of_le_of_lt (Nat.zero_le _) hi
      obtain ⟨_, h20, _⟩ : ∃ y, (∀ j, j < P.cellsOf e → w.cell? ((a.add (0 * P.cellsOf e)).add j) = (C 0)[j]?) ∧ True := by
        obtain ⟨y, _, h2, _, _⟩ := hC 0 hpos
        exact ⟨y, h2, trivial⟩
      have h4 := h20 0 hz
      have hC0 : 0 < (C 0).length := by rw [hCl 0 hpos]; exact hz
      rw [Nat.zero_mul, List.getElem?_eq_getElem hC0] at h4
      have hspot : a.spot = none := by
        unfold Addr.add World.cell? at h4
        simp only [if_true] at h4
        split at h4
        · split at h4
          · cases h4
          · rename_i hn; simpa using hn
        · cases h4
      obtain ⟨g, off, spot⟩ := a
      simp only at hspot
      subst hspot
      exact ⟨g, off, rfl, by rw [Addr.add_lit] at h3; exact h3⟩
    · obtain ⟨y, _, _, h3, h4⟩ := hC i hi
      rw [flat_piece C (P.cellsOf e) len hCl i hi]
      exact ⟨m, y, h3, by simp [h4]⟩
/-- Elements that are told one by one are told as a list. -/
theorem list_of {α : Type} (f : α → List Value) (Q : α → Prop) (s : Nat) : ∀ (n : Nat) (xs : List Value), xs.length = n * s → (∀ i, i < n → ∃ y, Q y ∧ (xs.drop (i * s)).take s = f y) → ∃ ys : List α, ys.length = n ∧ xs = ys.flatMap f ∧ ∀ y ∈ ys, Q y
  | 0, xs, hl, _ => ⟨[], rfl, List.eq_nil_of_length_eq_zero (by simpa using hl), by simp⟩
  | n + 1, xs, hl, h => by
    obtain ⟨y, hq, hy⟩ := h 0 (by omega)
    obtain ⟨ys, h1, h2, h3⟩ := list_of f Q s n (xs.drop s) (by rw [List.length_drop, hl, Nat.add_mul]; omega) (fun i hi => by
      obtain ⟨y, hq, hy⟩ := h (i + 1) (by omega)
      refine ⟨y, hq, ?_⟩
      rw [← hy, List.drop_drop]
      congr 2
      rw [Nat.add_mul]; omega)
    refine ⟨y :: ys, by simp [h1], ?_, ?_⟩
    · rw [List.flatMap_cons, ← h2, ← hy]
      simp
    · intro z hz
      rcases List.mem_cons.1 hz with rfl | hz
      · exact hq
      · exact h3 z hz
theorem cellsU8 : Tryd.prog.cellsOf 5 = 1 := by kernel_rfl
theorem bytesU8 : Tryd.prog.bytesOf 5 = 1 := by kernel_rfl
theorem flatMap_bv : ∀ bs : List UInt8, bs.flatMap (fun b : UInt8 => [bv b]) = bs.map bv
  | [] => rfl
  | b :: bs => by rw [List.flatMap_cons, flatMap_bv bs]; rfl
/-- Bytes that come in. -/
theorem bytes_open {H : Type} {enc : TypeId × Value → H} {w : World} {base : Nat} {sp : Nat → Bool} {held : Bool} {fuel : Nat} {v : Value} {x : DataW H × List MemPlace}
    (h : DataW.trod enc Tryd.prog w base sp held fuel 26 [v] = some x) : ∃ (bs : List UInt8) (el rest : List (DataW H)), RB w v bs ∧ el.length = bs.length ∧ (x.1 = .nil ∧ bs = [] ∨ x.1 = .slice el rest) := by
  obtain ⟨n, xs, el, rest, hR, hn, hx, he⟩ := rd_open Tryd.underlying26 (by rw [cellsU8]; decide) h
  rw [cellsU8] at hR he
  obtain ⟨bs, h1, h2, _⟩ := list_of (fun b : UInt8 => [bv b]) (fun _ => True) 1 n xs hR.len (fun i hi => by
    obtain ⟨m, y, hy, _⟩ := he i hi
    obtain ⟨z, hz, _, hw⟩ := DataW.trod_int (k := .u8) Tryd.underlying5 hy
    have hb := bounds_u8 hw
    refine ⟨UInt8.ofNat z.toNat, trivial, ?_⟩
    rw [hz]
    have : ((UInt8.ofNat z.toNat).toNat : Int) = z := by
      rw [UInt8.toNat_ofNat']
      omega
    unfold bv
    rw [this])
  have e := flatMap_bv bs
  rw [e] at h2
  subst h1; subst h2
  refine ⟨bs, el, rest, hR, hn, ?_⟩
  rcases hx with ⟨h1, h2⟩ | h1
  · exact .inl ⟨h1, List.eq_nil_of_length_eq_zero h2⟩
  · exact .inr h1
/-- An argument of bytes: its row, and its length's bound. -/
theorem arg_bytes {H : Type} {enc : TypeId × Value → H} {w : World} {r : Reach} {b0 base : Nat} {sp : Nat → Bool} {held : Bool} {v : Value} {d : DataW H} {p : List MemPlace} (hv : Value.okWide Tryd.prog w r b0 26 v)
    (h : DataW.Trod enc Tryd.prog w base sp held 26 v d p) {ts : List TypeId} {ds : List (DataW H)} (hz : (DataW.weightsEach Tryd.prog ts ds).all (· ≤ reachBytes) = true) {j : Nat} (hj : ts[j]? = some 26) (hd : ds[j]? = some d) :
    ∃ bs, RB w v bs ∧ bs.length + 4096 ≤ 140737488355328 := by
  obtain ⟨a, l, c, rfl⟩ := okWide_slice Tryd.underlying26 hv
  obtain ⟨fuel, h⟩ := h
  obtain ⟨bs, el, rest, h1, h2, h3⟩ := bytes_open (v := .slice a l c) h
  refine ⟨bs, h1, ?_⟩
  rcases h3 with ⟨_, rfl⟩ | h3
  · simp
  · have h3' : d = .slice el rest := h3
    rw [h3'] at hd
    have := sized_slice hz hj hd Tryd.underlying26
    rw [bytesU8] at this
    unfold reachBytes at this
    omega
end Go.Proofs.YtpkljdjdapgmjaaDoor
