/- Words of our own over the model's memory: rows of cells that are read, blocks, what a call may have changed. No program in sight. -/
import Derived.WalkKit
import Derived.Lib.Hide
import Derived.KernelRfl
import Derived.Deep.Draws
import Derived.Deep.LoopGhost
import Derived.Deep.QuietTactic
import Derived.BigQuiet
import Derived.WalkLawsBesides
import Derived.WalkSpells
import Derived.Deep.DeepFit
import Derived.Deep.RegionLaw
import Derived.Deep.AppendLies
import Derived.Deep.DeepCutAuto
import Derived.StillTailTactics
import Derived.Deep.WholeRow
import Derived.Laws.CopyOwn
namespace Go.Proofs.YtpkljdjdapgmjaaDoor
open Go.RowKit
set_option linter.unusedVariables false
set_option linter.unusedSimpArgs false

/-! ### What a call may have changed -/

/-- w' is w, but for new blocks and for what stands in the blocks of S. -/
structure Upd (S : List Nat) (w w' : World) : Prop where
  os : w'.os = w.os
  tape : w'.tape = w.tape
  output : w'.output = w.output
  size : w.heap.size ≤ w'.heap.size
  block : ∀ k, k < w.heap.size → k ∉ S → w'.heap[k]? = w.heap[k]?

theorem Upd.refl (S : List Nat) (w : World) : Upd S w w := ⟨rfl, rfl, rfl, Nat.le_refl _, fun _ _ _ => rfl⟩
theorem Upd.mono {S S' : List Nat} {w w' : World} (h : Upd S w w') (hs : ∀ k, k ∈ S → k ∈ S') : Upd S' w w' :=
  ⟨h.os, h.tape, h.output, h.size, fun k hk hn => h.block k hk fun hm => hn (hs k hm)⟩
theorem Upd.trans {S : List Nat} {a b c : World} (h : Upd S a b) (k : Upd S b c) : Upd S a c :=
  ⟨k.os.trans h.os, k.tape.trans h.tape, k.output.trans h.output, Nat.le_trans h.size k.size,
    fun i hi hn => (k.block i (Nat.lt_of_lt_of_le hi h.size) hn).trans (h.block i hi hn)⟩
/-- The second may change S and whatever is new since a. -/
theorem Upd.trans' {S S' : List Nat} {a b c : World} (h : Upd S a b) (k : Upd S' b c) (hs : ∀ x, x ∈ S' → x ∈ S ∨ a.heap.size ≤ x) : Upd S a c :=
  ⟨k.os.trans h.os, k.tape.trans h.tape, k.output.trans h.output, Nat.le_trans h.size k.size,
    fun i hi hn => (k.block i (Nat.lt_of_lt_of_le hi h.size) fun hm => (hs i hm).elim hn (fun hle => by omega)).trans (h.block i hi hn)⟩
theorem Upd.drew {S : List Nat} {a w : World} (h : Upd S a w) : Upd S a w.drew := ⟨h.os, h.tape, h.output, h.size, h.block⟩
theorem Upd.drewN {S : List Nat} {a w : World} (h : Upd S a w) (n : Nat) : Upd S a (w.drewN n) := ⟨h.os, h.tape, h.output, h.size, h.block⟩
theorem Upd.alloc {S : List Nat} {a w : World} (h : Upd S a w) (o : Obj) : Upd S a (w.alloc o) :=
  h.trans ⟨rfl, rfl, rfl, by simp, fun k hk _ => Below.heap_alloc _ _ _ (by omega)⟩
theorem Upd.setCell {S : List Nat} {a w : World} (h : Upd S a w) {p : Addr} (hp : p.block ∈ S ∨ a.heap.size ≤ p.block) (u : Value) : Upd S a (w.setCell p u) :=
  h.trans' (S' := [p.block]) ⟨rfl, rfl, rfl, by simp [World.setCell], fun k hk hn => Below.heap_setCell _ _ _ _ (by simpa using hn)⟩
    (fun x hx => by simp at hx; subst hx; exact hp)
theorem Upd.cell_ {w w' : World} (h : Upd [] w w') {a : Addr} {v : Value} (hc : w.cell? a = some v) : w'.cell? a = some v := by
  rw [World.cell?_of_block (w := w) (h.block a.block (World.block_lt_of_cell? w a hc) (by simp))]; exact hc
theorem Upd.below {w w' : World} (h : Upd [] w w') : Below w.heap.size w w' := ⟨h.os, h.tape, h.output, h.size, fun k hk => h.block k hk (by simp)⟩
theorem Upd.of_below {w w' : World} (h : Below w.heap.size w w') : Upd [] w w' := ⟨h.os, h.tape, h.output, h.size, fun k hk _ => h.block k hk⟩
theorem Upd.of_grown {w w' : World} {row : Option Nat} (h : w.grownBy w' row) : Upd row.toList w w' :=
  ⟨h.os, h.tape, h.output, h.size, fun k hk hn => h.block k hk (by cases row <;> simp_all)⟩
theorem Upd.grown {S : List Nat} {a w w' : World} {row : Option Nat} (h : Upd S a w) (hg : w.grownBy w' row) (hr : ∀ k, row = some k → k ∈ S ∨ a.heap.size ≤ k) : Upd S a w' :=
  h.trans' (Upd.of_grown hg) (fun x hx => hr x (by cases row <;> simp_all))

/-! ### Blocks -/

/-- Block g is a row of just these cells, of type t, and may be written. -/
def Blk (w : World) (g : Nat) (cs : List Value) (t : TypeId) : Prop := w.heap[g]? = some (.cells cs.toArray t (0, 0))

theorem Blk.lt {w : World} {g : Nat} {cs : List Value} {t : TypeId} (h : Blk w g cs t) : g < w.heap.size := (Array.getElem?_eq_some_iff.1 h).1
theorem Blk.cell {w : World} {g : Nat} {cs : List Value} {t : TypeId} (h : Blk w g cs t) (j : Nat) (v : Value) (hj : cs[j]? = some v) : w.cell? ⟨g, j, none⟩ = some v := by
  have h' : w.heap[g]? = some (.cells cs.toArray t (0, 0)) := h
  simp [World.cell?, h', hj]
theorem Blk.free {w : World} {g : Nat} {cs : List Value} {t : TypeId} (h : Blk w g cs t) (j : Nat) : w.frozen? ⟨g, j, none⟩ = false := by
  have h' : w.heap[g]? = some (.cells cs.toArray t (0, 0)) := h
  simp [World.frozen?, h']
theorem Blk.alloc {w : World} {g : Nat} {cs : List Value} {t : TypeId} (h : Blk w g cs t) (o : Obj) : Blk (w.alloc o) g cs t := by
  show (w.alloc o).heap[g]? = _
  rw [Below.heap_alloc _ _ _ h.lt]; exact h
theorem Blk.new (w : World) (cs : List Value) (t : TypeId) : Blk (w.alloc (.cells cs.toArray t)) w.heap.size cs t := heap_alloc_new w _
theorem Blk.drew {w : World} {g : Nat} {cs : List Value} {t : TypeId} (h : Blk w g cs t) : Blk w.drew g cs t := h
theorem Blk.drewN {w : World} {g : Nat} {cs : List Value} {t : TypeId} (h : Blk w g cs t) (n : Nat) : Blk (w.drewN n) g cs t := h
theorem Blk.upd {w w' : World} {g : Nat} {cs : List Value} {t : TypeId} {S : List Nat} (h : Blk w g cs t) (hu : Upd S w w') (hn : g ∉ S) : Blk w' g cs t :=
  (hu.block g h.lt hn).trans h
theorem Blk.upd0 {w w' : World} {g : Nat} {cs : List Value} {t : TypeId} (h : Blk w g cs t) (hu : Upd [] w w') : Blk w' g cs t := h.upd hu (by simp)
theorem Blk.set {w : World} {g : Nat} {cs : List Value} {t : TypeId} (h : Blk w g cs t) (j : Nat) (v : Value) : Blk (w.setCell ⟨g, j, none⟩ v) g (cs.set j v) t := by
  have h' : w.heap[g]? = some (.cells cs.toArray t (0, 0)) := h
  show (w.setCell ⟨g, j, none⟩ v).heap[g]? = _
  simp [World.setCell, Array.getElem?_modify, h']
theorem Blk.set_other {w : World} {g : Nat} {cs : List Value} {t : TypeId} (h : Blk w g cs t) (a : Addr) (v : Value) (hn : g ≠ a.block) : Blk (w.setCell a v) g cs t := by
  show (w.setCell a v).heap[g]? = _
  rw [Below.heap_setCell _ _ _ _ hn]; exact h

/-- The most bytes that an append may come to. -/
def lim : Nat := 140737488355328
theorem lim_le {n : Nat} (h : n ≤ lim) : n ≤ 140737488355328 := h
theorem le_lim {n : Nat} (h : n ≤ 140737488355328) : n ≤ lim := h

/-! ### Rows that are read -/

/-- The slice value v, of n elements of sz cells each, reads as the cells xs. -/
structure Rd (w : World) (v : Value) (sz n : Nat) (xs : List Value) : Prop where
  len : xs.length = n * sz
  small : n ≤ 9223372036854775807
  form : ∃ A cap, v = .slice A n cap ∧ n ≤ cap ∧ cap ≤ 9223372036854775807 ∧ (A = none → cap = 0) ∧
    ∀ j u, xs[j]? = some u → ∃ g off, A = some ⟨g, off, none⟩ ∧ w.cell? ⟨g, off + j, none⟩ = some u

theorem Rd.keep {w w' : World} {v : Value} {sz n : Nat} {xs : List Value} (h : Rd w v sz n xs) {S : List Nat} (hu : Upd S w w') (hn : ∀ g, v.ownBlock = some g → g ∉ S) : Rd w' v sz n xs := by
  obtain ⟨h1, h2, A, cap, rfl, h3, h4, h5, h6⟩ := h
  refine ⟨h1, h2, A, cap, rfl, h3, h4, h5, fun j u hj => ?_⟩
  obtain ⟨g, off, rfl, hc⟩ := h6 j u hj
  refine ⟨g, off, rfl, ?_⟩
  have hlt := World.block_lt_of_cell? w _ hc
  rw [World.cell?_of_block (w := w) (a := ⟨g, off + j, none⟩) (hu.block g hlt (hn g rfl))]
  exact hc
theorem Rd.upd {w w' : World} {v : Value} {sz n : Nat} {xs : List Value} (h : Rd w v sz n xs) (hu : Upd [] w w') : Rd w' v sz n xs := h.keep hu (by simp)
theorem Rd.alloc {w : World} {v : Value} {sz n : Nat} {xs : List Value} (h : Rd w v sz n xs) (o : Obj) : Rd (w.alloc o) v sz n xs := h.upd ((Upd.refl _ _).alloc o)
theorem Rd.drew {w : World} {v : Value} {sz n : Nat} {xs : List Value} (h : Rd w v sz n xs) : Rd w.drew v sz n xs := h.upd (Upd.refl _ _).drew
theorem Rd.drewN {w : World} {v : Value} {sz n : Nat} {xs : List Value} (h : Rd w v sz n xs) (k : Nat) : Rd (w.drewN k) v sz n xs := h.upd ((Upd.refl _ _).drewN k)
theorem Rd.nil (w : World) (sz : Nat) : Rd w (.slice none 0 0) sz 0 [] := ⟨by simp, by omega, none, 0, rfl, by omega, by omega, fun _ => rfl, fun j u hj => by simp at hj⟩

/-- A row of the call's own is one that is read. -/
theorem rd_of_own {w : World} {base : Nat} {e : TypeId} {sz n : Nat} {v : Value} {xs : List Value} (h : w.ownsRow base e sz v n xs) : Rd w v sz n xs := by
  have hc := fun {g} => h.cells (g := g)
  refine ⟨h.1, ?_, ?_⟩
  · rcases h.2 with ⟨_, h0⟩ | ⟨g, cap, cur, rfl, _, _, h1, h2, _⟩
    · omega
    · simp only [maxLen] at h2; omega
  · rcases h.2 with ⟨rfl, rfl⟩ | ⟨g, cap, cur, rfl, _, _, h1, h2, _⟩
    · refine ⟨none, 0, rfl, by omega, by omega, fun _ => rfl, fun j u hj => ?_⟩
      have : xs = [] := List.eq_nil_of_length_eq_zero (by simpa using h.1)
      subst this; simp at hj
    · refine ⟨_, cap, rfl, h1, by simp only [maxLen] at h2; omega, by simp, fun j u hj => ⟨g, 0, rfl, ?_⟩⟩
      have := hc (g := g) rfl j u hj
      rwa [Addr.add_lit] at this

/-- What is owned, told of another world. -/
theorem own_upd {w w' : World} {base : Nat} {e : TypeId} {sz n : Nat} {v : Value} {xs : List Value} (h : w.ownsRow base e sz v n xs) {S : List Nat} (hu : Upd S w w') (hn : ∀ g, v.ownBlock = some g → g ∉ S) : w'.ownsRow base e sz v n xs := by
  refine ⟨h.1, ?_⟩
  rcases h.2 with h0 | ⟨g, cap, cur, rfl, hb, hg, r⟩
  · exact .inl h0
  · exact .inr ⟨g, cap, cur, rfl, hb, (hu.block g (Array.getElem?_eq_some_iff.1 hg).1 (hn g rfl)).trans hg, r⟩
theorem own_base {w : World} {base base' : Nat} {e : TypeId} {sz n : Nat} {v : Value} {xs : List Value} (h : w.ownsRow base e sz v n xs) (hb : ∀ g, v.ownBlock = some g → base' ≤ g) : w.ownsRow base' e sz v n xs := by
  refine ⟨h.1, ?_⟩
  rcases h.2 with h0 | ⟨g, cap, cur, rfl, _, r⟩
  · exact .inl h0
  · exact .inr ⟨g, cap, cur, rfl, hb g rfl, r⟩

/-- A literal's row. -/
theorem Rd.lit (w : World) (cs : List Value) (t : TypeId) (sz n : Nat) (hn : cs.length = n * sz) (hs : n ≤ 9223372036854775807) : Rd (w.alloc (.cells cs.toArray t)) (.slice (some ⟨w.heap.size, 0, none⟩) n n) sz n cs :=
  ⟨hn, hs, _, n, rfl, Nat.le_refl _, hs, by simp, fun j u hj => ⟨_, 0, rfl, (Blk.new w cs t).cell _ _ (by simpa using hj)⟩⟩

/-! ### append onto a row of the call's own, whatever is appended -/
section
variable {P : Program} (w : World)
theorem run_app (base : Nat) (t ty e : TypeId) (i : TypeInfo) (z : Value) (size bytes : Nat) (ht : P.underlying t = some (.slice e)) (hi : P.info? e = some i) (hz : i.zero = some z)
    (hsize : i.size = size) (hby : i.bytes = bytes) (hzs : z.cells.size = size) (hsz : 0 < size) (hb0 : 0 < bytes)
    (v : Value) (n : Nat) (xs : List Value) (hown : w.ownsRow base e size v n xs)
    (v2 : Value) (m : Nat) (ys : List Value) (hr : Rd w v2 size m ys) (h1 : ∀ u ∈ ys, u.oneCell' = true)
    (hbytes : (n + m) * bytes ≤ 140737488355328) (hbase : base ≤ w.heap.size) :
    ∃ v' w', (Builtin.append_ #[t, t] ty #[v, v2]).run P w = .ok v' w' ∧ w'.ownsRow base e size v' (n + m) (xs ++ ys) ∧ w.grownBy w' v.ownBlock ∧
      (v'.ownBlock = v.ownBlock ∨ v'.ownBlock = some w.heap.size) := by
  obtain ⟨hl, _, A, cap, rfl, hmc, _, hA, hc⟩ := hr
  cases A with
  | some ad =>
    have h63 : n + m ≤ maxLen := by
      have := Nat.le_trans (Nat.le_mul_of_pos_right (n + m) hb0) hbytes
      simp only [maxLen]; omega
    obtain ⟨v', w', r1, r2, r3, _, r5⟩ := run_append_own_at (P := P) w base t ty e i z size bytes ht hi hz hsize hby hzs hsz v n xs hown ad m cap ys hl (fun j u hj => by
      obtain ⟨g, off, he, hcc⟩ := hc j u hj
      injection he with he; subst he
      rw [Addr.add_lit]; exact hcc) h1 h63 hbytes hbase
    exact ⟨v', w', r1, r2, r3, r5⟩
  | none =>
    obtain rfl : cap = 0 := hA rfl
    obtain rfl : m = 0 := by omega
    obtain rfl : ys = [] := List.eq_nil_of_length_eq_zero (by simpa using hl)
    have hg : w.grownBy w v.ownBlock := ⟨rfl, rfl, rfl, Nat.le_refl _, fun _ _ _ => rfl⟩
    refine ⟨v, w, ?_, by simpa using hown, hg, .inl rfl⟩
    rcases hown.2 with ⟨rfl, rfl⟩ | ⟨g, cap, cur, rfl, _, _, hnc, _⟩
    · simp [Builtin.append_, run_underlying ht, sizeOf, typeInfo, hi, Builtin.lenOf, Builtin.firstCells]
    · simp [Builtin.append_, run_underlying ht, sizeOf, typeInfo, hi, Builtin.lenOf, Builtin.firstCells, hnc, storeCells]

theorem wp_app {o : Oper} {a : Act} {K : Act → World → Prop} {Q : Exit → Act → World → Prop} (s x : Operand) (t : TypeId)
    (ho : o.op = .call { callee := .builtin .append, args := #[s, x], argTypes := #[t, t] })
    (base : Nat) (e : TypeId) (i : TypeInfo) (z : Value) (size bytes : Nat) (ht : P.underlying t = some (.slice e)) (hi : P.info? e = some i) (hz : i.zero = some z)
    (hsize : i.size = size) (hby : i.bytes = bytes) (hzs : z.cells.size = size) (hsz : 0 < size) (hb0 : 0 < bytes)
    (v : Value) (n : Nat) (xs : List Value) (hs : a.eval s = v) (hown : w.ownsRow base e size v n xs)
    (v2 : Value) (m : Nat) (ys : List Value) (hx : a.eval x = v2) (hr : Rd w v2 size m ys) (h1 : ∀ u ∈ ys, u.oneCell' = true)
    (hbytes : (n + m) * bytes ≤ 140737488355328) (hbase : base ≤ w.heap.size)
    (h : ∀ v' w', w'.ownsRow base e size v' (n + m) (xs ++ ys) → w.grownBy w' v.ownBlock → (v'.ownBlock = v.ownBlock ∨ v'.ownBlock = some w.heap.size) → K (a.put o.dst v') w') :
    o.wp P a w K Q := by
  obtain ⟨v', w', hr, h2, h3, h5⟩ := run_app (P := P) w base t o.type e i z size bytes ht hi hz hsize hby hzs hsz hb0 v n xs hown v2 m ys hr h1 hbytes hbase
  unfold Oper.wp execOp
  simp only [ho, resolve, invoke, builtin, Sem.run_bind, Sem.run_pure, Result.andThen_ok, List.map_toArray, List.map_cons, List.map_nil, hs, hx, hr]
  exact h v' w' h2 h3 h5
end

/-- A whole value into the block that was made last: no cell is looked at. -/
theorem wpList_store_new {P : Program} {w : World} {ops : Array Oper} {rest : List Oper} {o : Oper} {a : Act} {Q : Exit → Act → World → Prop} (hgd : o.guard = none) (hd : o.dst = none) (ty : TypeId) (x y : Operand) (ho : o.op = .store ty x y)
    (c c' : Array Value) (t : TypeId) (hx : a.eval x = .pointer (some ⟨w.heap.size, 0, none⟩)) (hy : a.eval y = .agg c') (hi : (P.info? ty).map (·.size) = some c'.size) (hs : c.size = c'.size) (h1 : c'.all (·.oneCell') = true)
    (h : wpList P ops Q rest a (w.alloc (.cells c' t))) : wpList P ops Q (o :: rest) a (w.alloc (.cells c t)) := by
  refine wpList_plain hgd fun K hK => ?_
  have hr : (Instr.storeAt ty (.pointer (some ⟨w.heap.size, 0, none⟩)) (.agg c')).run P (w.alloc (.cells c t)) = .ok () (w.alloc (.cells c' t)) := by
    simp only [Instr.storeAt, Instr.sureAddr, Sem.run_bind, Sem.run_pure, Result.andThen]
    rw [run_storeVar_row _ _ t ty c c' (heap_alloc_last w _) hi hs h1, World.setRow_alloc_new]
  unfold Oper.wp execOp
  simp only [ho, hx, hy, Sem.run_bind, hr, Result.andThen_ok, Sem.run_pure]
  have := hK _ _ h
  simpa [Oper.upon, Act.put, hd] using this

/-- An element of an array value whose elements are of one cell. -/
theorem run_index_one {P : Program} (w : World) (t e : TypeId) (n : Nat) (d : TypeDesc) (i : TypeInfo) (ht : P.underlying t = some (.array n e)) (he : P.underlying e = some d) (hd : (match d with | .struct _ | .array _ _ => true | _ => false) = false)
    (hi : P.info? e = some i) (hs : i.size = 1) (cs : Array Value) (k : Nat) (v : Value) (hk : k < n) (hv : cs[k]? = some v) :
    (Instr.index t (.agg cs) (.int .i64 (k : Int))).run P w = .ok v w := by
  have hagg : (isAgg e).run P w = .ok false w := by
    unfold isAgg
    rw [Sem.run_bind, run_underlying he w]
    cases d <;> simp_all
  have hlt : (0 : Int) ≤ (k : Int) ∧ (k : Int) < (n : Int) := by omega
  simp [Instr.index, asIntOf, run_underlying ht, hlt, sizeOf, typeInfo, hi, hs, part, Sem.run_bind, hagg, hv]
  intro h
  omega

/-- A struct or an array read out of a block that is known cell by cell. -/
theorem run_loadVar_cells {P : Program} (w : World) (g off : Nat) (ty : TypeId) (cs : List Value) (d : TypeDesc) (hc : ∀ j v, cs[j]? = some v → w.cell? ⟨g, off + j, none⟩ = some v)
    (hu : P.underlying ty = some d) (hd : (match d with | .struct _ | .array _ _ => true | _ => false) = true) (hi : (P.info? ty).map (·.size) = some cs.length) :
    (loadVar ty ⟨g, off, none⟩).run P w = .ok (.agg cs.toArray) w := by
  have hl := run_loadCells_list (P := P) w ⟨g, off, none⟩ cs (fun j v hv => by rw [Addr.add_lit]; exact hc j v hv)
  cases hq : P.info? ty with
  | none => simp [hq] at hi
  | some i =>
    have hs : i.size = cs.length := by simpa [hq] using hi
    have hagg : (isAgg ty).run P w = .ok true w := by
      unfold isAgg
      rw [Sem.run_bind, run_underlying hu w]
      cases d <;> simp_all
    simp [loadVar, Sem.run_bind, hagg, sizeOf, typeInfo, hq, hs, hl]
theorem wpList_load_cells {P : Program} {w : World} {ops : Array Oper} {rest : List Oper} {o : Oper} {a : Act} {Q : Exit → Act → World → Prop} (hgd : o.guard = none) (ty : TypeId) (x : Operand) (ho : o.op = .load ty x)
    (g off : Nat) (hx : a.eval x = .pointer (some ⟨g, off, none⟩)) (cs : List Value) (d : TypeDesc) (hc : ∀ j v, cs[j]? = some v → w.cell? ⟨g, off + j, none⟩ = some v)
    (hu : P.underlying ty = some d) (hd : (match d with | .struct _ | .array _ _ => true | _ => false) = true) (hi : (P.info? ty).map (·.size) = some cs.length)
    (h : wpList P ops Q rest (a.put o.dst (.agg cs.toArray)) w) : wpList P ops Q (o :: rest) a w := by
  refine wpList_plain hgd fun K hK => ?_
  unfold Oper.wp execOp
  simp only [ho, hx, Instr.loadAt, Instr.sureAddr, Sem.run_bind, Sem.run_pure, Result.andThen_ok, run_loadVar_cells w g off ty cs d hc hu hd hi]
  exact hK _ _ h
/-- An element of an array value whose elements are structs. -/
theorem run_index_agg {P : Program} (w : World) (t e : TypeId) (n : Nat) (d : TypeDesc) (i : TypeInfo) (ht : P.underlying t = some (.array n e)) (he : P.underlying e = some d) (hd : (match d with | .struct _ | .array _ _ => true | _ => false) = true)
    (hi : P.info? e = some i) (cs : Array Value) (k : Nat) (hk : k < n) :
    (Instr.index t (.agg cs) (.int .i64 (k : Int))).run P w = .ok (.agg (cs.extract (k * i.size) (k * i.size + i.size))) w := by
  have hagg : (isAgg e).run P w = .ok true w := by
    unfold isAgg
    rw [Sem.run_bind, run_underlying he w]
    cases d <;> simp_all
  have hlt : (0 : Int) ≤ (k : Int) ∧ (k : Int) < (n : Int) := by omega
  simp [Instr.index, asIntOf, run_underlying ht, hlt, sizeOf, typeInfo, hi, part, Sem.run_bind, hagg]
  intro h
  omega

/-- A whole value into a block that is known whole. -/
theorem wpList_store_blk {P : Program} {w : World} {ops : Array Oper} {rest : List Oper} {o : Oper} {a : Act} {Q : Exit → Act → World → Prop} (hgd : o.guard = none) (hd : o.dst = none) (ty : TypeId) (x y : Operand) (ho : o.op = .store ty x y)
    (g : Nat) (old new : List Value) (t : TypeId) (hx : a.eval x = .pointer (some ⟨g, 0, none⟩)) (hy : a.eval y = .agg new.toArray) (hB : Blk w g old t) (hi : (P.info? ty).map (·.size) = some new.length) (hs : old.length = new.length) (h1 : new.toArray.all (·.oneCell') = true)
    (h : ∀ W, Blk W g new t → Upd [g] w W → wpList P ops Q rest a W) : wpList P ops Q (o :: rest) a w := by
  refine wpList_plain hgd fun K hK => ?_
  have hB' : w.heap[g]? = some (.cells old.toArray t (0, 0)) := hB
  have hr : (Instr.storeAt ty (.pointer (some ⟨g, 0, none⟩)) (.agg new.toArray)).run P w = .ok () (w.setRow g new.toArray) := by
    simp only [Instr.storeAt, Instr.sureAddr, Sem.run_bind, Sem.run_pure, Result.andThen]
    rw [run_storeVar_row _ _ t ty old.toArray new.toArray hB' (by simpa using hi) (by simpa using hs) h1]
  have hb : Blk (w.setRow g new.toArray) g new t := setRow_heap w g _ _ t _ hB'
  have hu : Upd [g] w (w.setRow g new.toArray) := ⟨rfl, rfl, rfl, by simp [World.setRow], fun k hk hn => setRow_other w g k _ (by simpa using hn)⟩
  unfold Oper.wp execOp
  simp only [ho, hx, hy, Sem.run_bind, hr, Result.andThen_ok, Sem.run_pure]
  have := hK _ _ (h _ hb hu)
  simpa [Oper.upon, Act.put, hd] using this

/-- The walk goes on in any world of which this much is known. -/
theorem gen_world {P : Program} {c : Code} {Q : Exit → Act → World → Prop} {a : Act} {w : World} (Φ : World → Prop) (h : Φ w) (k : ∀ W, Φ W → c.wp P Q a W) : c.wp P Q a w := k w h

/-! ### Bytes -/

/-- A byte as a cell. -/
def bv (x : UInt8) : Value := .int .u8 (x.toNat : Int)
/-- The slice value v reads as the bytes bs. -/
def RB (w : World) (v : Value) (bs : List UInt8) : Prop := Rd w v 1 bs.length (bs.map bv)

theorem RB.upd {w w' : World} {v : Value} {bs : List UInt8} (h : RB w v bs) (hu : Upd [] w w') : RB w' v bs := Rd.upd h hu
theorem RB.keep {w w' : World} {v : Value} {bs : List UInt8} (h : RB w v bs) {S : List Nat} (hu : Upd S w w') (hn : ∀ g, v.ownBlock = some g → g ∉ S) : RB w' v bs := Rd.keep h hu hn
theorem RB.open_ {w : World} {v : Value} {bs : List UInt8} (h : RB w v bs) : ∃ A cap, v = .slice A bs.length cap ∧ bs.length ≤ cap ∧ cap ≤ 9223372036854775807 ∧ (A = none → cap = 0) ∧
    (∀ j (hj : j < bs.length), ∃ g off, A = some ⟨g, off, none⟩ ∧ w.cell? ⟨g, off + j, none⟩ = some (.int .u8 ((bs[j]'hj).toNat : Int))) := by
  obtain ⟨_, _, A, cap, hv, h3, h4, h5, h6⟩ := h
  refine ⟨A, cap, hv, h3, h4, h5, fun j hj => h6 j _ ?_⟩
  simp [hj, bv]
/-- Not empty: the address and every cell. -/
theorem RB.open_pos {w : World} {v : Value} {bs : List UInt8} (h : RB w v bs) (h0 : 0 < bs.length) : ∃ g off cap, v = .slice (some ⟨g, off, none⟩) bs.length cap ∧ bs.length ≤ cap ∧ cap ≤ 9223372036854775807 ∧
    (∀ j (hj : j < bs.length), w.cell? ⟨g, off + j, none⟩ = some (.int .u8 ((bs[j]'hj).toNat : Int))) := by
  obtain ⟨A, cap, rfl, h1, h2, _, h4⟩ := h.open_
  obtain ⟨g, off, rfl, _⟩ := h4 0 h0
  refine ⟨g, off, cap, rfl, h1, h2, fun j hj => ?_⟩
  obtain ⟨g', off', he, hc⟩ := h4 j hj
  injection he with he; injection he with e1 e2; subst e1; subst e2
  exact hc

/-- Bytes of the call's own: they may be appended to and written; the row's block is base or a later one. -/
def OB (w : World) (base : Nat) (v : Value) (bs : List UInt8) : Prop := w.ownsRow base 5 1 v bs.length (bs.map bv)
theorem OB.rb {w : World} {base : Nat} {v : Value} {bs : List UInt8} (h : OB w base v bs) : RB w v bs := rd_of_own h
theorem OB.upd {w w' : World} {base : Nat} {v : Value} {bs : List UInt8} (h : OB w base v bs) {S : List Nat} (hu : Upd S w w') (hn : ∀ g, v.ownBlock = some g → g ∉ S) : OB w' base v bs := own_upd h hu hn
theorem OB.upd0 {w w' : World} {base : Nat} {v : Value} {bs : List UInt8} (h : OB w base v bs) (hu : Upd [] w w') : OB w' base v bs := h.upd hu (by simp)
theorem OB.base {w : World} {base base' : Nat} {v : Value} {bs : List UInt8} (h : OB w base v bs) (hb : ∀ g, v.ownBlock = some g → base' ≤ g) : OB w base' v bs := own_base h hb
theorem OB.lt {w : World} {base : Nat} {v : Value} {bs : List UInt8} (h : OB w base v bs) : ∀ g, v.ownBlock = some g → base ≤ g ∧ g < w.heap.size := World.ownsRow.lt h

theorem OB.slice {w : World} {base : Nat} {v : Value} {bs : List UInt8} (h : OB w base v bs) : ∃ A cap, v = .slice A bs.length cap := by
  obtain ⟨A, cap, hv, _⟩ := (OB.rb h).open_
  exact ⟨A, cap, hv⟩
/-- A piece of a block of bytes. -/
theorem RB.of_blk {w : World} {g : Nat} {l : List UInt8} {t : TypeId} (h : Blk w g (l.map bv) t) (off n cap : Nat) (bs : List UInt8) (he : bs = (l.drop off).take n) (hn : off + n ≤ l.length) (hc : n ≤ cap) (hm : cap ≤ 9223372036854775807) :
    RB w (.slice (some ⟨g, off, none⟩) n cap) bs := by
  subst he
  have hl : ((l.drop off).take n).length = n := by simp; omega
  refine ⟨by simp, by omega, some ⟨g, off, none⟩, cap, by rw [hl], by omega, hm, by simp, fun j u hj => ⟨g, off, rfl, h.cell _ _ ?_⟩⟩
  rw [List.getElem?_map] at hj ⊢
  rw [← hj]
  have hjn : j < n := by
    have := (List.getElem?_eq_some_iff.1 (show (((l.drop off).take n).map bv)[j]? = some u by rw [List.getElem?_map]; exact hj)).1
    simp at this; omega
  rw [List.getElem?_take_of_lt hjn, List.getElem?_drop]

/-! ### What a call answers -/

/-- It returns one value of which P holds. -/
structure Ret (P : Value → World → Prop) (e : Ending) (w' : World) : Prop where
  ex : ∃ r, e = .returned r ∧ P r w'
/-- Equal numbers are equal results. -/
theorem ret_int {k : IntKind} {a b : Int} (h : a = b) : Ending.returned (.int k a) = .returned (.int k b) := by rw [h]
theorem ret_bool {a b : Bool} (h : a = b) : Ending.returned (.bool a) = .returned (.bool b) := by rw [h]
end Go.Proofs.YtpkljdjdapgmjaaDoor
