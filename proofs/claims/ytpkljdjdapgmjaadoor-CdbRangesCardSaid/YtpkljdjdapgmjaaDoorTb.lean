/- What the laid tables and a Cdb that comes in give. -/
import Derived.Test.YtpkljdjdapgmjaaDoorCg
import Derived.Test.YtpkljdjdapgmjaaDoorTa
import Derived.Test.YtpkljdjdapgmjaaDoorCards
import Derived.Test.YtpkljdjdapgmjaaDoorTie
namespace Go.Proofs.YtpkljdjdapgmjaaDoor
open Go Go.ChangeShapes Go.WideShapes Go.ChangeAt Go.RowKit
set_option linter.unusedVariables false
set_option linter.unusedSimpArgs false

theorem cellsInt : Tryd.prog.cellsOf 3 = 1 := by kernel_rfl
theorem cellsPlace : Tryd.prog.cellsOf 70 = 3 := by kernel_rfl
theorem cellsPlaces : Tryd.prog.cellsOf 71 = 18 := by kernel_rfl
theorem cellsRow : Tryd.prog.cellsOf 73 = 19 := by kernel_rfl
theorem cellsRows : Tryd.prog.cellsOf 102 = 266 := by kernel_rfl
theorem cellsSizes : Tryd.prog.cellsOf 65 = 8 := by kernel_rfl
theorem gRows : Tryd.prog.globalNamed "caisson/cdb.rows" = some 1 := by kernel_rfl
theorem gSizes : Tryd.prog.globalNamed "caisson/cdb.sizes" = some 0 := by kernel_rfl
theorem tRows : (Tryd.prog.globals[1]?).map (·.type) = some 102 := by kernel_rfl
theorem tSizes : (Tryd.prog.globals[0]?).map (·.type) = some 65 := by kernel_rfl
theorem litInt (w : World) : LitTy Tryd.prog w 3 := litTy_int (k := .i64) Tryd.underlying3
theorem litPlace (w : World) : LitTy Tryd.prog w 70 := by
  refine litTy_struct Tryd.underlying70 (by rw [cellsPlace]; simp only [Tiles, cellsInt, and_self]) (fun i f hf => ?_)
  match i, hf with
  | 0, hf => injection hf with hf; subst hf; exact litInt w
  | 1, hf => injection hf with hf; subst hf; exact litInt w
  | 2, hf => injection hf with hf; subst hf; exact litInt w
  | i + 3, hf => simp at hf
theorem litPlaces (w : World) : LitTy Tryd.prog w 71 := litTy_array Tryd.underlying71 (by rw [cellsPlaces, cellsPlace]) (litPlace w)
theorem litRow (w : World) : LitTy Tryd.prog w 73 := by
  refine litTy_struct Tryd.underlying73 (by rw [cellsRow]; simp only [Tiles, cellsInt, cellsPlaces, and_self]) (fun i f hf => ?_)
  match i, hf with
  | 0, hf => injection hf with hf; subst hf; exact litInt w
  | 1, hf => injection hf with hf; subst hf; exact litPlaces w
  | i + 2, hf => simp at hf
theorem litRows (w : World) : LitTy Tryd.prog w 102 := litTy_array Tryd.underlying102 (by rw [cellsRows, cellsRow]) (litRow w)
theorem litSizes (w : World) : LitTy Tryd.prog w 65 := litTy_array Tryd.underlying65 (by rw [cellsSizes, cellsInt]) (litInt w)
theorem flatRows : flat 8 Rows.laid_caisson_cdb_rows = some rowsTab.toList := by kernel_rfl
theorem flatSizes : flat 8 Rows.laid_caisson_cdb_sizes = some sizesTab.toList := by kernel_rfl
theorem var_block {w : World} {name : String} {cs : Array Value} {g : Nat} (hg : Tryd.prog.globalNamed name = some g) (h : w.var? Tryd.prog name = some cs) : ∃ T fr, w.heap[g]? = some (.cells cs T fr) := by
  unfold World.var? at h
  rw [hg] at h
  simp only [Option.bind_some] at h
  split at h
  · rename_i c T fr heq
    injection h with h; subst h
    exact ⟨T, fr, heq⟩
  · cases h
theorem tab_of {w : World} {rest : List (String × DataW Unit)} {ps : List MemPlace} (h : DataW.LaidVars Tryd.prog w (("caisson/cdb.rows", Rows.laid_caisson_cdb_rows) :: rest) ps) : Tab w ∧ ∃ q, DataW.LaidVars Tryd.prog w rest q := by
  obtain ⟨g, t, cs, fuel, p, q, hg, ht, hv, hd, hr, _⟩ := h
  obtain rfl := Option.some.inj (gRows.symm.trans hg)
  obtain rfl := Option.some.inj (tRows.symm.trans ht)
  have hc := litRows w _ _ _ _ _ _ _ _ _ _ hd flatRows
  have hc' : cs = rowsTab := by rw [← Array.toArray_toList (xs := cs), hc, Array.toArray_toList]
  obtain ⟨T, fr, hb⟩ := var_block gRows hv
  rw [hc'] at hb
  exact ⟨⟨T, fr, hb⟩, q, hr⟩
theorem siz_of {w : World} {rest : List (String × DataW Unit)} {ps : List MemPlace} (h : DataW.LaidVars Tryd.prog w (("caisson/cdb.sizes", Rows.laid_caisson_cdb_sizes) :: rest) ps) : Siz w := by
  obtain ⟨g, t, cs, fuel, p, q, hg, ht, hv, hd, hr, _⟩ := h
  obtain rfl := Option.some.inj (gSizes.symm.trans hg)
  obtain rfl := Option.some.inj (tSizes.symm.trans ht)
  have hc := litSizes w _ _ _ _ _ _ _ _ _ _ hd flatSizes
  have hc' : cs = sizesTab := by rw [← Array.toArray_toList (xs := cs), hc, Array.toArray_toList]
  obtain ⟨T, fr, hb⟩ := var_block gSizes hv
  rw [hc'] at hb
  exact ⟨T, fr, hb⟩
/-- Both tables. -/
theorem both_of {w : World} (h : laidMetH Tryd.prog [("caisson/cdb.rows", Rows.laid_caisson_cdb_rows), ("caisson/cdb.sizes", Rows.laid_caisson_cdb_sizes)] w) : Tab w ∧ Siz w := by
  have h' : laidMet Tryd.prog [("caisson/cdb.rows", Rows.laid_caisson_cdb_rows), ("caisson/cdb.sizes", Rows.laid_caisson_cdb_sizes)] w := h
  obtain ⟨ps, hv, _⟩ := h'
  obtain ⟨h1, q, h2⟩ := tab_of hv
  exact ⟨h1, siz_of h2⟩
theorem one_of {w : World} (h : laidMetH Tryd.prog [("caisson/cdb.rows", Rows.laid_caisson_cdb_rows)] w) : Tab w := by
  have h' : laidMet Tryd.prog [("caisson/cdb.rows", Rows.laid_caisson_cdb_rows)] w := h
  obtain ⟨ps, hv, _⟩ := h'
  exact (tab_of hv).1

/-! ### A Cdb that comes in -/
theorem cellsCdb : Tryd.prog.cellsOf 24 = 7 := by kernel_rfl
theorem oneCdb : oneTy Tryd.prog 24 = true := by kernel_rfl
theorem cellsBool : Tryd.prog.cellsOf 4 = 1 := by kernel_rfl
theorem cellsU64 : Tryd.prog.cellsOf 22 = 1 := by kernel_rfl
theorem stillCdb : StillTy Tryd.prog 24 := by
  refine still_struct Tryd.underlying24 ?_
  exact List.forall_mem_cons.2 ⟨still_int Tryd.underlying3, List.forall_mem_cons.2 ⟨still_int Tryd.underlying3, List.forall_mem_cons.2 ⟨still_int Tryd.underlying3, List.forall_mem_cons.2 ⟨still_bool Tryd.underlying4, List.forall_mem_cons.2 ⟨still_int Tryd.underlying3, List.forall_mem_cons.2 ⟨still_int Tryd.underlying22, List.forall_mem_cons.2 ⟨still_int Tryd.underlying3, List.forall_mem_nil _⟩⟩⟩⟩⟩⟩⟩
theorem cdb_open {H : Type} {enc : TypeId × Value → H} {w : World} {base : Nat} {sp : Nat → Bool} {held : Bool} {v : Value} {d : DataW H} {p : List MemPlace}
    (hv : ∃ cs : Array Value, v = .agg cs ∧ cs.size = 7) (h : DataW.Trod enc Tryd.prog w base sp held 24 v d p) : ∃ c : Cmd, c.Ok ∧ v = c.val ∧ p = [] := by
  obtain ⟨cs, rfl, hs⟩ := hv
  obtain ⟨a0, a1, a2, a3, a4, a5, a6, rfl⟩ := arr7 cs hs
  obtain ⟨fuel, h⟩ := h
  obtain ⟨xs, n, hx, _, hl, hi⟩ := struct_cells Tryd.underlying24 oneCdb h
  obtain ⟨x0, x1, x2, x3, x4, x5, x6, rfl⟩ := list7 xs hl
  injection hx with e1 e2
  subst e1; subst e2
  have i0 : DataW.trod enc Tryd.prog w base sp held n 3 [a0] = some x0 := hi 0 _ rfl
  have i1 : DataW.trod enc Tryd.prog w base sp held n 3 [a1] = some x1 := hi 1 _ rfl
  have i2 : DataW.trod enc Tryd.prog w base sp held n 3 [a2] = some x2 := hi 2 _ rfl
  have i3 : DataW.trod enc Tryd.prog w base sp held n 4 [a3] = some x3 := hi 3 _ rfl
  have i4 : DataW.trod enc Tryd.prog w base sp held n 3 [a4] = some x4 := hi 4 _ rfl
  have i5 : DataW.trod enc Tryd.prog w base sp held n 22 [a5] = some x5 := hi 5 _ rfl
  have i6 : DataW.trod enc Tryd.prog w base sp held n 3 [a6] = some x6 := hi 6 _ rfl
  obtain ⟨n0, h0, rfl, w0⟩ := DataW.trod_int (k := .i64) Tryd.underlying3 i0
  obtain ⟨n1, h1, rfl, w1⟩ := DataW.trod_int (k := .i64) Tryd.underlying3 i1
  obtain ⟨n2, h2, rfl, w2⟩ := DataW.trod_int (k := .i64) Tryd.underlying3 i2
  obtain ⟨n3, h3, rfl⟩ := DataW.trod_bool Tryd.underlying4 i3
  obtain ⟨n4, h4, rfl, w4⟩ := DataW.trod_int (k := .i64) Tryd.underlying3 i4
  obtain ⟨n5, h5, rfl, w5⟩ := DataW.trod_int (k := .u64) Tryd.underlying22 i5
  obtain ⟨n6, h6, rfl, w6⟩ := DataW.trod_int (k := .i64) Tryd.underlying3 i6
  injection h0 with h0 _
  injection h1 with h1 _
  injection h2 with h2 _
  injection h3 with h3 _
  injection h4 with h4 _
  injection h5 with h5 _
  injection h6 with h6 _
  subst h0 h1 h2 h3 h4 h5 h6
  have b5 := bounds_u64 w5
  refine ⟨⟨n0, n1, n2, n3, n4, n5.toNat, n6⟩, ⟨bounds_i64 w0, bounds_i64 w1, bounds_i64 w2, bounds_i64 w4, by show n5.toNat < _; omega, bounds_i64 w6⟩, ?_, rfl⟩
  unfold Cmd.val
  have e5 : ((n5.toNat : Nat) : Int) = n5 := by omega
  rw [e5]
/-- What stands in a block, turned. -/
def laidAs (cs : Array Value) : Obj → Obj
  | .cells _ t frozen => .cells cs t frozen
  | o => o
/-- The settled world, the tables holding what the program lays. -/
noncomputable def laidWorld (os : Os) : World :=
  { World.holding Tryd.prog os ⟨#[], #[], []⟩ with heap := ((World.holding Tryd.prog os ⟨#[], #[], []⟩).heap.modify 0 (laidAs sizesTab)).modify 1 (laidAs rowsTab) }
end Go.Proofs.YtpkljdjdapgmjaaDoor
