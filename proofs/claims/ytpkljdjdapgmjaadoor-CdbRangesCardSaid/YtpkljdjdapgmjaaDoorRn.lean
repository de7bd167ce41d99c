/- Rows of ranges (two cells each): append, reading; the law's given2 and taken2; the reference's SameRanges. -/
import Derived.Test.YtpkljdjdapgmjaaDoorWx
import Derived.Laws.StructEq
namespace Go.Proofs.YtpkljdjdapgmjaaDoor
open Go.RowKit
set_option linter.unusedVariables false
set_option linter.unusedSimpArgs false

/-! ### append of elements of any number of cells -/
theorem own_slice {w : World} {base : Nat} {e : TypeId} {sz n : Nat} {v : Value} {xs : List Value} (h : w.ownsRow base e sz v n xs) : ∃ A cap, v = .slice A n cap := by
  obtain ⟨_, _, A, cap, hv, _⟩ := rd_of_own h
  exact ⟨A, cap, hv⟩
/-- What an append has done. -/
structure AppG (base : Nat) (e : TypeId) (sz : Nat) (v : Value) (n : Nat) (xs : List Value) (m : Nat) (ys : List Value) (w w' : World) (A : Option Addr) (cap : Nat) : Prop where
  own : w'.ownsRow base e sz (.slice A (n + m) cap) (n + m) (xs ++ ys)
  upd : Upd v.ownBlock.toList w w'
  at_ : A.map (·.block) = v.ownBlock ∨ A.map (·.block) = some w.heap.size
theorem AppG.from_new {base : Nat} {e : TypeId} {sz : Nat} {v : Value} {n : Nat} {xs : List Value} {m : Nat} {ys : List Value} {w0 w w' : World} {A : Option Addr} {cap : Nat} {S : List Nat} (h : AppG base e sz v n xs m ys w w' A cap) (hu : Upd S w0 w) (hv : ∀ g, v.ownBlock = some g → g ∈ S ∨ w0.heap.size ≤ g) : Upd S w0 w' :=
  hu.trans' h.upd (fun x hx => hv x (by simpa using hx))
theorem wp_appG {P : Program} {w : World} {o : Oper} {a : Act} {K : Act → World → Prop} {Q : Exit → Act → World → Prop} (s x : Operand) (t : TypeId)
    (ho : o.op = .call { callee := .builtin .append, args := #[s, x], argTypes := #[t, t] })
    (base : Nat) (e : TypeId) (i : TypeInfo) (z : Value) (size bytes : Nat) (ht : P.underlying t = some (.slice e)) (hi : P.info? e = some i) (hz : i.zero = some z)
    (hsize : i.size = size) (hby : i.bytes = bytes) (hzs : z.cells.size = size) (hsz : 0 < size) (hb0 : 0 < bytes)
    (v : Value) (n : Nat) (xs : List Value) (hs : a.eval s = v) (hown : w.ownsRow base e size v n xs)
    (v2 : Value) (m : Nat) (ys : List Value) (hx : a.eval x = v2) (hr : Rd w v2 size m ys) (h1 : ∀ u ∈ ys, u.oneCell' = true)
    (hbytes : (n + m) * bytes ≤ 140737488355328) (hbase : base ≤ w.heap.size)
    (h : ∀ A cap w', AppG base e size v n xs m ys w w' A cap → K (a.put o.dst (.slice A (n + m) cap)) w') :
    o.wp P a w K Q := by
  refine wp_app w s x t ho base e i z size bytes ht hi hz hsize hby hzs hsz hb0 v n xs hs hown v2 m ys hx hr h1 hbytes hbase ?_
  intro v' w' h1 h2 h3
  obtain ⟨A, cap, rfl⟩ := own_slice h1
  refine h A cap w' ⟨h1, Upd.of_grown h2, ?_⟩
  cases A <;> exact h3

/-! ### Ranges -/
/-- The cells of ranges. -/
def rc (l : List (Nat × Int)) : List Value := l.flatMap fun x => [.int .u64 (x.1 : Int), .int .i64 x.2]
theorem rc_length (l : List (Nat × Int)) : (rc l).length = l.length * 2 := by
  induction l with
  | nil => rfl
  | cons x l ih => simp only [rc, List.flatMap_cons, List.length_append, List.length_cons, List.length_nil] at ih ⊢; omega
theorem rc_one (l : List (Nat × Int)) : ∀ u ∈ rc l, u.oneCell' = true := by
  intro u hu
  obtain ⟨x, _, hx⟩ := List.mem_flatMap.1 hu
  simp only [List.mem_cons, List.not_mem_nil, or_false] at hx
  rcases hx with rfl | rfl <;> rfl
theorem rc_at (l : List (Nat × Int)) (k : Nat) (h : k < l.length) : (rc l)[k * 2]? = some (.int .u64 (l[k].1 : Int)) ∧ (rc l)[k * 2 + 1]? = some (.int .i64 l[k].2) := by
  induction l generalizing k with
  | nil => simp at h
  | cons p l ih =>
    cases k with
    | zero => simp [rc]
    | succ k =>
      have := ih k (by simpa using h)
      simp only [rc, List.flatMap_cons, List.cons_append, List.nil_append] at this ⊢
      have e : (k + 1) * 2 = k * 2 + 1 + 1 := by omega
      simpa [e] using this
theorem rc_append (a b : List (Nat × Int)) : rc (a ++ b) = rc a ++ rc b := by simp [rc]
/-- The slice value v reads as the ranges l. -/
def RR (w : World) (v : Value) (l : List (Nat × Int)) : Prop := Rd w v 2 l.length (rc l)
theorem RR.upd {w w' : World} {v : Value} {l : List (Nat × Int)} (h : RR w v l) (hu : Upd [] w w') : RR w' v l := Rd.upd h hu
theorem RR.open_ {w : World} {v : Value} {l : List (Nat × Int)} (h : RR w v l) : ∃ A cap, v = .slice A l.length cap ∧ l.length ≤ cap ∧ cap ≤ 9223372036854775807 ∧
    (∀ k (hk : k < l.length), ∃ g off, A = some ⟨g, off, none⟩ ∧ w.cell? ⟨g, off + k * 2, none⟩ = some (.int .u64 ((l[k]'hk).1 : Int)) ∧ w.cell? ⟨g, off + k * 2 + 1, none⟩ = some (.int .i64 (l[k]'hk).2)) := by
  obtain ⟨_, _, A, cap, hv, h3, h4, h5, h6⟩ := h
  refine ⟨A, cap, hv, h3, h4, fun k hk => ?_⟩
  obtain ⟨q0, q1⟩ := rc_at l k hk
  obtain ⟨g, off, rfl, c0⟩ := h6 _ _ q0
  obtain ⟨g', off', he, c1⟩ := h6 _ _ q1
  injection he with he; injection he with e1 e2; subst e1; subst e2
  exact ⟨g, off, rfl, c0, by rw [Nat.add_assoc]; exact c1⟩
/-- Not empty: the address and every cell. -/
theorem RR.open_pos {w : World} {v : Value} {l : List (Nat × Int)} (h : RR w v l) (h0 : 0 < l.length) : ∃ g off cap, v = .slice (some ⟨g, off, none⟩) l.length cap ∧ l.length ≤ cap ∧ cap ≤ 9223372036854775807 ∧
    (∀ k (hk : k < l.length), w.cell? ⟨g, off + k * 2, none⟩ = some (.int .u64 ((l[k]'hk).1 : Int)) ∧ w.cell? ⟨g, off + k * 2 + 1, none⟩ = some (.int .i64 (l[k]'hk).2)) := by
  obtain ⟨A, cap, rfl, h1, h2, h4⟩ := h.open_
  obtain ⟨g, off, rfl, _⟩ := h4 0 h0
  refine ⟨g, off, cap, rfl, h1, h2, fun k hk => ?_⟩
  obtain ⟨g', off', he, hc⟩ := h4 k hk
  injection he with he; injection he with e1 e2; subst e1; subst e2
  exact hc
theorem take_snocR (l : List (Nat × Int)) (k : Nat) (h : k < l.length) : l.take (k + 1) = l.take k ++ [l[k]] := by
  rw [List.take_succ_eq_append_getElem h]

theorem info_cdb : (Tryd.prog.info? 100).map (fun i => (i.zero, i.size, i.bytes)) = some (some (.agg #[.int .u64 0, .int .i64 0]), 2, 16) := by kernel_rfl
/-- Ranges of the call's own. -/
def OR_cdb (w : World) (base : Nat) (v : Value) (l : List (Nat × Int)) : Prop := w.ownsRow base 100 2 v l.length (rc l)
theorem OR_cdb.rr {w : World} {base : Nat} {v : Value} {l : List (Nat × Int)} (h : OR_cdb w base v l) : RR w v l := rd_of_own h
theorem OR_cdb.upd0 {w w' : World} {base : Nat} {v : Value} {l : List (Nat × Int)} (h : OR_cdb w base v l) (hu : Upd [] w w') : OR_cdb w' base v l := own_upd h hu (by simp)
theorem OR_cdb.upd {w w' : World} {base : Nat} {v : Value} {l : List (Nat × Int)} (h : OR_cdb w base v l) {S : List Nat} (hu : Upd S w w') (hn : ∀ g, v.ownBlock = some g → g ∉ S) : OR_cdb w' base v l := own_upd h hu hn
theorem OR_cdb.lt {w : World} {base : Nat} {v : Value} {l : List (Nat × Int)} (h : OR_cdb w base v l) : ∀ g, v.ownBlock = some g → base ≤ g ∧ g < w.heap.size := World.ownsRow.lt h
theorem OR_cdb.nil (w : World) (base : Nat) : OR_cdb w base (.slice none 0 0) [] := World.ownsRow_nil w base _ _
theorem OR_cdb.slice {w : World} {base : Nat} {v : Value} {l : List (Nat × Int)} (h : OR_cdb w base v l) : ∃ A cap, v = .slice A l.length cap := own_slice h
/-- 'append(l, x)' of one range in a box of its own. -/
theorem wp_appR_cdb {w : World} {o : Oper} {a : Act} {K : Act → World → Prop} {Q : Exit → Act → World → Prop} (s x : Operand)
    (ho : o.op = .call { callee := .builtin .append, args := #[s, x], argTypes := #[53, 53] })
    (base : Nat) (v : Value) (l : List (Nat × Int)) (hs : a.eval s = v) (hown : OR_cdb w base v l)
    (v2 : Value) (y : Nat × Int) (hx : a.eval x = v2) (hr : RR w v2 [y]) (hl : (l.length + 1) * 16 ≤ 140737488355328) (hbase : base ≤ w.heap.size)
    (h : ∀ A cap w', OR_cdb w' base (.slice A (l.length + 1) cap) (l ++ [y]) → Upd v.ownBlock.toList w w' → K (a.put o.dst (.slice A (l.length + 1) cap)) w') :
    o.wp Tryd.prog a w K Q := by
  obtain ⟨i0, hi, hz0, hz1, hz2⟩ := info_parts info_cdb
  refine wp_appG s x 53 ho base 100 i0 _ 2 16 Tryd.underlying53 hi hz0 hz1 hz2 rfl (by decide) (by decide) v l.length (rc l) hs hown v2 1 (rc [y]) hx hr (rc_one _) hl hbase ?_
  intro A cap w' h1
  refine h A cap w' ?_ h1.upd
  have := h1.own
  rw [← rc_append] at this
  unfold OR_cdb
  rw [List.length_append]
  exact this
theorem wpList_appR_cdb {w : World} {ops : Array Oper} {rest : List Oper} {o : Oper} {a : Act} {Q : Exit → Act → World → Prop} (hgd : o.guard = none) (s x : Operand)
    (ho : o.op = .call { callee := .builtin .append, args := #[s, x], argTypes := #[53, 53] })
    (base : Nat) (v : Value) (l : List (Nat × Int)) (hs : a.eval s = v) (hown : OR_cdb w base v l)
    (v2 : Value) (y : Nat × Int) (hx : a.eval x = v2) (hr : RR w v2 [y]) (hl : (l.length + 1) * 16 ≤ 140737488355328) (hbase : base ≤ w.heap.size)
    (h : ∀ A cap w', OR_cdb w' base (.slice A (l.length + 1) cap) (l ++ [y]) → Upd v.ownBlock.toList w w' → wpList Tryd.prog ops Q rest (a.put o.dst (.slice A (l.length + 1) cap)) w') :
    wpList Tryd.prog ops Q (o :: rest) a w :=
  wpList_plain hgd fun _ hK => wp_appR_cdb s x ho base v l hs hown v2 y hx hr hl hbase fun A cap w' h1 h2 => hK _ _ (h A cap w' h1 h2)
theorem step_appR_cdb {w : World} {ops : Array Oper} {o : Oper} {a : Act} {K : Act → World → Prop} {Q : Exit → Act → World → Prop} {E : Prop} (hgd : o.guard = none) (s x : Operand)
    (ho : o.op = .call { callee := .builtin .append, args := #[s, x], argTypes := #[53, 53] })
    (base : Nat) (v : Value) (l : List (Nat × Int)) (hs : a.eval s = v) (hown : OR_cdb w base v l)
    (v2 : Value) (y : Nat × Int) (hx : a.eval x = v2) (hr : RR w v2 [y]) (hl : (l.length + 1) * 16 ≤ 140737488355328) (hbase : base ≤ w.heap.size)
    (h : ∀ A cap w', OR_cdb w' base (.slice A (l.length + 1) cap) (l ++ [y]) → Upd v.ownBlock.toList w w' → K (a.put o.dst (.slice A (l.length + 1) cap)) w') :
    if Region.wanted o (yielded ops a.tmps) = true then Oper.wp Tryd.prog o a w K Q else E := by
  have hw : Region.wanted o (yielded ops a.tmps) = true := by simp [Region.wanted, hgd]
  rw [if_pos hw]
  exact wp_appR_cdb s x ho base v l hs hown v2 y hx hr hl hbase h
theorem info_caissonref15 : (Tryd.prog.info? 101).map (fun i => (i.zero, i.size, i.bytes)) = some (some (.agg #[.int .u64 0, .int .i64 0]), 2, 16) := by kernel_rfl
/-- Ranges of the call's own. -/
def OR_caissonref15 (w : World) (base : Nat) (v : Value) (l : List (Nat × Int)) : Prop := w.ownsRow base 101 2 v l.length (rc l)
theorem OR_caissonref15.rr {w : World} {base : Nat} {v : Value} {l : List (Nat × Int)} (h : OR_caissonref15 w base v l) : RR w v l := rd_of_own h
theorem OR_caissonref15.upd0 {w w' : World} {base : Nat} {v : Value} {l : List (Nat × Int)} (h : OR_caissonref15 w base v l) (hu : Upd [] w w') : OR_caissonref15 w' base v l := own_upd h hu (by simp)
theorem OR_caissonref15.upd {w w' : World} {base : Nat} {v : Value} {l : List (Nat × Int)} (h : OR_caissonref15 w base v l) {S : List Nat} (hu : Upd S w w') (hn : ∀ g, v.ownBlock = some g → g ∉ S) : OR_caissonref15 w' base v l := own_upd h hu hn
theorem OR_caissonref15.lt {w : World} {base : Nat} {v : Value} {l : List (Nat × Int)} (h : OR_caissonref15 w base v l) : ∀ g, v.ownBlock = some g → base ≤ g ∧ g < w.heap.size := World.ownsRow.lt h
theorem OR_caissonref15.nil (w : World) (base : Nat) : OR_caissonref15 w base (.slice none 0 0) [] := World.ownsRow_nil w base _ _
theorem OR_caissonref15.slice {w : World} {base : Nat} {v : Value} {l : List (Nat × Int)} (h : OR_caissonref15 w base v l) : ∃ A cap, v = .slice A l.length cap := own_slice h
/-- 'append(l, x)' of one range in a box of its own. -/
theorem wp_appR_caissonref15 {w : World} {o : Oper} {a : Act} {K : Act → World → Prop} {Q : Exit → Act → World → Prop} (s x : Operand)
    (ho : o.op = .call { callee := .builtin .append, args := #[s, x], argTypes := #[51, 51] })
    (base : Nat) (v : Value) (l : List (Nat × Int)) (hs : a.eval s = v) (hown : OR_caissonref15 w base v l)
    (v2 : Value) (y : Nat × Int) (hx : a.eval x = v2) (hr : RR w v2 [y]) (hl : (l.length + 1) * 16 ≤ 140737488355328) (hbase : base ≤ w.heap.size)
    (h : ∀ A cap w', OR_caissonref15 w' base (.slice A (l.length + 1) cap) (l ++ [y]) → Upd v.ownBlock.toList w w' → K (a.put o.dst (.slice A (l.length + 1) cap)) w') :
    o.wp Tryd.prog a w K Q := by
  obtain ⟨i0, hi, hz0, hz1, hz2⟩ := info_parts info_caissonref15
  refine wp_appG s x 51 ho base 101 i0 _ 2 16 Tryd.underlying51 hi hz0 hz1 hz2 rfl (by decide) (by decide) v l.length (rc l) hs hown v2 1 (rc [y]) hx hr (rc_one _) hl hbase ?_
  intro A cap w' h1
  refine h A cap w' ?_ h1.upd
  have := h1.own
  rw [← rc_append] at this
  unfold OR_caissonref15
  rw [List.length_append]
  exact this
theorem wpList_appR_caissonref15 {w : World} {ops : Array Oper} {rest : List Oper} {o : Oper} {a : Act} {Q : Exit → Act → World → Prop} (hgd : o.guard = none) (s x : Operand)
    (ho : o.op = .call { callee := .builtin .append, args := #[s, x], argTypes := #[51, 51] })
    (base : Nat) (v : Value) (l : List (Nat × Int)) (hs : a.eval s = v) (hown : OR_caissonref15 w base v l)
    (v2 : Value) (y : Nat × Int) (hx : a.eval x = v2) (hr : RR w v2 [y]) (hl : (l.length + 1) * 16 ≤ 140737488355328) (hbase : base ≤ w.heap.size)
    (h : ∀ A cap w', OR_caissonref15 w' base (.slice A (l.length + 1) cap) (l ++ [y]) → Upd v.ownBlock.toList w w' → wpList Tryd.prog ops Q rest (a.put o.dst (.slice A (l.length + 1) cap)) w') :
    wpList Tryd.prog ops Q (o :: rest) a w :=
  wpList_plain hgd fun _ hK => wp_appR_caissonref15 s x ho base v l hs hown v2 y hx hr hl hbase fun A cap w' h1 h2 => hK _ _ (h A cap w' h1 h2)
theorem step_appR_caissonref15 {w : World} {ops : Array Oper} {o : Oper} {a : Act} {K : Act → World → Prop} {Q : Exit → Act → World → Prop} {E : Prop} (hgd : o.guard = none) (s x : Operand)
    (ho : o.op = .call { callee := .builtin .append, args := #[s, x], argTypes := #[51, 51] })
    (base : Nat) (v : Value) (l : List (Nat × Int)) (hs : a.eval s = v) (hown : OR_caissonref15 w base v l)
    (v2 : Value) (y : Nat × Int) (hx : a.eval x = v2) (hr : RR w v2 [y]) (hl : (l.length + 1) * 16 ≤ 140737488355328) (hbase : base ≤ w.heap.size)
    (h : ∀ A cap w', OR_caissonref15 w' base (.slice A (l.length + 1) cap) (l ++ [y]) → Upd v.ownBlock.toList w w' → K (a.put o.dst (.slice A (l.length + 1) cap)) w') :
    if Region.wanted o (yielded ops a.tmps) = true then Oper.wp Tryd.prog o a w K Q else E := by
  have hw : Region.wanted o (yielded ops a.tmps) = true := by simp [Region.wanted, hgd]
  rw [if_pos hw]
  exact wp_appR_caissonref15 s x ho base v l hs hown v2 y hx hr hl hbase h
/-- A range in a box of its own. -/
theorem rr_one (w : World) (a : Nat) (n : Int) (t : TypeId) : RR (w.alloc (.cells #[.int .u64 (a : Int), .int .i64 n] t)) (.slice (some ⟨w.heap.size, 0, none⟩) 1 1) [(a, n)] :=
  Rd.lit w [.int .u64 (a : Int), .int .i64 n] t 2 1 rfl (by decide)

set_option maxHeartbeats 1000000 in
theorem given2_c (v : Value) (l : List (Nat × Int)) (w : World) (hb : RR w v l) (hl : l.length * 16 ≤ 140737488355328) :
    Calls Tryd.prog 27 #[v] w (Ret fun r w' => OR_cdb w' w.heap.size r l ∧ Upd [] w w') := by
  have HB := Lib.hid hb
  have HL := Lib.hid hl
  obtain ⟨A, cap, rfl, h1, h2, _⟩ := hb.open_
  clear hb hl
  go_enter Tryd.func27, Tryd.ntmps27
  go_wp2_with fail
  go_loopw [3, 4] (fun vo vi wr => ∃ k : Nat, k ≤ l.length ∧ vi = .int .i64 (k : Int) ∧ OR_cdb wr w.heap.size vo (l.take k) ∧ Upd [] w wr) (fun _ vi _ => l.length - (intOf vi).toNat)
  case atStart => exact ⟨0, by omega, rfl, OR_cdb.nil _ _, Upd.refl _ _⟩
  case round =>
    obtain ⟨k, hk, rfl, r1, r2⟩ := hrel
    obtain ⟨Ao, co, hvo⟩ := r1.slice
    have hlen : (l.take k).length = k := by simp; omega
    rw [hlen] at hvo
    subst hvo
    have R1 := Lib.hid r1
    have R2 := Lib.hid r2
    have HLen := Lib.hid hlen
    clear hlen
    by_cases hlt : k < l.length
    · obtain ⟨g, off, cap', he, _, _, hc⟩ := (HB.out.upd r2).open_pos (by omega)
      injection he with e1 e2 e3
      subst e1; subst e3
      obtain ⟨c0, c1⟩ := hc k hlt
      obtain ⟨x0, hx0⟩ : ∃ x, x = (l[k]'hlt).1 := ⟨_, rfl⟩
      obtain ⟨x1, hx1⟩ : ∃ x, x = (l[k]'hlt).2 := ⟨_, rfl⟩
      rw [← hx0] at c0
      rw [← hx1] at c1
      have hle : l.take (k + 1) = l.take k ++ [(x0, x1)] := by rw [take_snocR l k hlt, hx0, hx1]
      have HLE := Lib.hid hle
      have hk0 : (0 : Int) ≤ (k : Int) := by omega
      have hkl : (k : Int) < (l.length : Int) := by omega
      clear hc e2 r1 r2 hx0 hx1 hle
      go_wp2_with fail
      go_region_law (refine step_appR_cdb rfl (.tmp 11) (.tmp 23) rfl w.heap.size _ (l.take k) rfl (by exact R1.out.upd0 (((Upd.refl _ _).alloc _).drew)) _ (x0, x1) rfl (by exact (rr_one wr.drew x0 x1 _)) (by have := HLen.out; have := HL.out; omega) (by have := R2.out.size; simp; omega) ?_; intro A2 c2 w2 g1 g2)
      all_goals
        have hUx : Upd [] w w2 := by
          have H : ∀ x, x ∈ (Value.slice Ao k co).ownBlock.toList → x ∈ ([] : List Nat) ∨ w.heap.size ≤ x := fun x hx => .inr (R1.out.lt x (by simpa using hx)).1
          first
            | exact ((R2.out.alloc _).drew).trans' g2 H
            | exact (R2.out.drew.alloc _).trans' g2 H
        rw [HLen.out] at g1
        have G1 := Lib.hid g1
        have HUX := Lib.hid hUx
        clear g1 g2 hUx c0 c1
        go_wp2_with fail
        go_roundw
        case rel => exact ⟨k + 1, by omega, by go_num, by rw [HLE.out]; exact G1.out, HUX.out⟩
        case measure => simp [intOf]; omega
    · obtain rfl : k = l.length := by omega
      rw [List.take_length] at r1
      have R3 := Lib.hid r1
      clear r1 r2
      go_wp2_with fail
      go_ret
      exact ⟨_, rfl, R3.out, R2.out⟩
set_option maxHeartbeats 1000000 in
theorem taken2_c (v : Value) (l : List (Nat × Int)) (w : World) (hb : RR w v l) (hl : l.length * 16 ≤ 140737488355328) :
    Calls Tryd.prog 32 #[v] w (Ret fun r w' => OR_caissonref15 w' w.heap.size r l ∧ Upd [] w w') := by
  have HB := Lib.hid hb
  have HL := Lib.hid hl
  obtain ⟨A, cap, rfl, h1, h2, _⟩ := hb.open_
  clear hb hl
  go_enter Tryd.func32, Tryd.ntmps32
  go_wp2_with fail
  go_loopw [3, 4] (fun vo vi wr => ∃ k : Nat, k ≤ l.length ∧ vi = .int .i64 (k : Int) ∧ OR_caissonref15 wr w.heap.size vo (l.take k) ∧ Upd [] w wr) (fun _ vi _ => l.length - (intOf vi).toNat)
  case atStart => exact ⟨0, by omega, rfl, OR_caissonref15.nil _ _, Upd.refl _ _⟩
  case round =>
    obtain ⟨k, hk, rfl, r1, r2⟩ := hrel
    obtain ⟨Ao, co, hvo⟩ := r1.slice
    have hlen : (l.take k).length = k := by simp; omega
    rw [hlen] at hvo
    subst hvo
    have R1 := Lib.hid r1
    have R2 := Lib.hid r2
    have HLen := Lib.hid hlen
    clear hlen
    by_cases hlt : k < l.length
    · obtain ⟨g, off, cap', he, _, _, hc⟩ := (HB.out.upd r2).open_pos (by omega)
      injection he with e1 e2 e3
      subst e1; subst e3
      obtain ⟨c0, c1⟩ := hc k hlt
      obtain ⟨x0, hx0⟩ : ∃ x, x = (l[k]'hlt).1 := ⟨_, rfl⟩
      obtain ⟨x1, hx1⟩ : ∃ x, x = (l[k]'hlt).2 := ⟨_, rfl⟩
      rw [← hx0] at c0
      rw [← hx1] at c1
      have hle : l.take (k + 1) = l.take k ++ [(x0, x1)] := by rw [take_snocR l k hlt, hx0, hx1]
      have HLE := Lib.hid hle
      have hk0 : (0 : Int) ≤ (k : Int) := by omega
      have hkl : (k : Int) < (l.length : Int) := by omega
      clear hc e2 r1 r2 hx0 hx1 hle
      go_wp2_with fail
      go_region_law (refine step_appR_caissonref15 rfl (.tmp 11) (.tmp 23) rfl w.heap.size _ (l.take k) rfl (by exact R1.out.upd0 (((Upd.refl _ _).alloc _).drew)) _ (x0, x1) rfl (by exact (rr_one wr.drew x0 x1 _)) (by have := HLen.out; have := HL.out; omega) (by have := R2.out.size; simp; omega) ?_; intro A2 c2 w2 g1 g2)
      all_goals
        have hUx : Upd [] w w2 := by
          have H : ∀ x, x ∈ (Value.slice Ao k co).ownBlock.toList → x ∈ ([] : List Nat) ∨ w.heap.size ≤ x := fun x hx => .inr (R1.out.lt x (by simpa using hx)).1
          first
            | exact ((R2.out.alloc _).drew).trans' g2 H
            | exact (R2.out.drew.alloc _).trans' g2 H
        rw [HLen.out] at g1
        have G1 := Lib.hid g1
        have HUX := Lib.hid hUx
        clear g1 g2 hUx c0 c1
        go_wp2_with fail
        go_roundw
        case rel => exact ⟨k + 1, by omega, by go_num, by rw [HLE.out]; exact G1.out, HUX.out⟩
        case measure => simp [intOf]; omega
    · obtain rfl : k = l.length := by omega
      rw [List.take_length] at r1
      have R3 := Lib.hid r1
      clear r1 r2
      go_wp2_with fail
      go_ret
      exact ⟨_, rfl, R3.out, R2.out⟩

set_option maxHeartbeats 1000000 in
theorem same_c (v u : Value) (l : List (Nat × Int)) (w : World) (hv : RR w v l) (hu : RR w u l) :
    Calls Tryd.prog 31 #[v, u] w fun e w' => e = .returned (.bool true) ∧ Upd [] w w' := by
  have HV := Lib.hid hv
  have HU := Lib.hid hu
  obtain ⟨A, cap, rfl, h1, h2, _⟩ := hv.open_
  obtain ⟨B, cap', rfl, h3, h4, _⟩ := hu.open_
  clear hv hu
  go_enter Tryd.func31, Tryd.ntmps31
  go_wp2_with fail
  go_loopw [5] (fun vi wr => ∃ k : Nat, k ≤ l.length ∧ vi = .int .i64 (k : Int) ∧ Upd [] w wr) (fun vi _ => l.length - (intOf vi).toNat)
  case atStart => exact ⟨0, by omega, rfl, Upd.refl _ _⟩
  case round =>
    obtain ⟨k, hk, rfl, r2⟩ := hrel
    have R2 := Lib.hid r2
    by_cases hlt : k < l.length
    · obtain ⟨g, off, c1, he, _, _, hc⟩ := (HV.out.upd r2).open_pos (by omega)
      obtain ⟨g', off', c2, he', _, _, hc'⟩ := (HU.out.upd r2).open_pos (by omega)
      injection he with e1 e2 e3
      injection he' with e4 e5 e6
      subst e1; subst e3; subst e4; subst e6
      obtain ⟨x0, x1⟩ := hc k hlt
      obtain ⟨y0, y1⟩ := hc' k hlt
      obtain ⟨a, ha⟩ : ∃ x, x = (l[k]'hlt).1 := ⟨_, rfl⟩
      obtain ⟨b, hb⟩ : ∃ x, x = (l[k]'hlt).2 := ⟨_, rfl⟩
      rw [← ha] at x0 y0
      rw [← hb] at x1 y1
      have hk0 : (0 : Int) ≤ (k : Int) := by omega
      have hkl : (k : Int) < (l.length : Int) := by omega
      clear hc hc' e2 e5 r2 ha hb
      go_wp2_with fail
      go_quiet (fail)
      go_wp2_with fail
      go_roundw
      case rel => exact ⟨k + 1, by omega, by go_num, R2.out.drewN _⟩
      case measure => simp [intOf]; omega
    · obtain rfl : k = l.length := by omega
      clear r2
      go_wp2_with fail
      go_ret
      exact ⟨rfl, R2.out⟩
end Go.Proofs.YtpkljdjdapgmjaaDoor
