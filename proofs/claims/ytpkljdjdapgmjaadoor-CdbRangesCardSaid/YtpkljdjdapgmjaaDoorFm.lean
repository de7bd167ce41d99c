/- append and friends on rows of bytes, at this seat's types. -/
import Derived.Test.YtpkljdjdapgmjaaDoorFa
import Derived.Test.YtpkljdjdapgmjaaDoorChecked
namespace Go.Proofs.YtpkljdjdapgmjaaDoor
open Go.RowKit
set_option linter.unusedVariables false
set_option linter.unusedSimpArgs false

theorem infoU8 : (Tryd.prog.info? 5).map (fun i => (i.zero, i.size, i.bytes)) = some (some (.int .u8 0), 1, 1) := by kernel_rfl
theorem bv_one (bs : List UInt8) : ∀ u ∈ bs.map bv, u.oneCell' = true := by
  intro u hu
  obtain ⟨x, _, rfl⟩ := List.mem_map.1 hu
  rfl

/-- What an append has done: from w to w', the row v that held bs; the new slice value is '.slice A n cap'. -/
structure AppB (base : Nat) (v : Value) (bs cs : List UInt8) (w w' : World) (A : Option Addr) (n cap : Nat) : Prop where
  n_eq : n = bs.length + cs.length
  own : OB w' base (.slice A n cap) (bs ++ cs)
  upd : Upd v.ownBlock.toList w w'
  at_ : A.map (·.block) = v.ownBlock ∨ A.map (·.block) = some w.heap.size
/-- A block beside the row is as it was. -/
theorem AppB.blk {base : Nat} {v : Value} {bs cs : List UInt8} {w w' : World} {A : Option Addr} {n cap : Nat} (h : AppB base v bs cs w w' A n cap) {p : Nat} {l : List Value} {t : TypeId} (hB : Blk w p l t) (hne : v.ownBlock ≠ some p) : Blk w' p l t :=
  hB.upd h.upd (fun hm => by simp at hm; exact hne hm)
theorem AppB.from_new {base : Nat} {v : Value} {bs cs : List UInt8} {w0 w w' : World} {A : Option Addr} {n cap : Nat} {S : List Nat} (h : AppB base v bs cs w w' A n cap) (hu : Upd S w0 w) (hv : ∀ g, v.ownBlock = some g → g ∈ S ∨ w0.heap.size ≤ g) : Upd S w0 w' :=
  hu.trans' h.upd (fun x hx => hv x (by simpa using hx))
theorem AppB.new_ge {base : Nat} {v : Value} {bs cs : List UInt8} {w0 w w' : World} {A : Option Addr} {n cap : Nat} {S : List Nat} (h : AppB base v bs cs w w' A n cap) (hu : Upd S w0 w) (hv : ∀ g, v.ownBlock = some g → g ∈ S ∨ w0.heap.size ≤ g) :
    ∀ g, (Value.slice A n cap).ownBlock = some g → g ∈ S ∨ w0.heap.size ≤ g := by
  intro g hg
  have hA : (Value.slice A n cap).ownBlock = A.map (·.block) := by cases A <;> rfl
  rw [hA] at hg
  rcases h.at_ with e | e
  · rw [e] at hg; exact hv g hg
  · rw [e] at hg; injection hg with hg; have := hu.size; right; omega

theorem wp_appB {w : World} {o : Oper} {a : Act} {K : Act → World → Prop} {Q : Exit → Act → World → Prop} (s x : Operand)
    (ho : o.op = .call { callee := .builtin .append, args := #[s, x], argTypes := #[26, 26] })
    (base : Nat) (v : Value) (bs : List UInt8) (hs : a.eval s = v) (hown : OB w base v bs)
    (v2 : Value) (cs : List UInt8) (hx : a.eval x = v2) (hr : RB w v2 cs) (hl : bs.length + cs.length ≤ lim) (hbase : base ≤ w.heap.size)
    (h : ∀ A n cap w', AppB base v bs cs w w' A n cap → K (a.put o.dst (.slice A n cap)) w') :
    o.wp Tryd.prog a w K Q := by
  obtain ⟨i0, hi, hz0, hz1, hz2⟩ := info_parts infoU8
  refine wp_app w s x 26 ho base 5 i0 (.int .u8 0) 1 1 Tryd.underlying26 hi hz0 hz1 hz2 rfl (by decide) (by decide) v bs.length (bs.map bv) hs hown v2 cs.length (cs.map bv) hx hr (bv_one cs) (by have := lim_le hl; omega) hbase ?_
  intro v' w' h1 h2 h3
  have h1' : OB w' base v' (bs ++ cs) := by
    unfold OB
    rw [List.length_append, List.map_append]
    exact h1
  obtain ⟨A, cap, rfl⟩ := h1'.slice
  refine h A _ cap w' ⟨List.length_append, h1', Upd.of_grown h2, ?_⟩
  cases A <;> exact h3

/-- In a plain region. -/
theorem wpList_appB {w : World} {ops : Array Oper} {rest : List Oper} {o : Oper} {a : Act} {Q : Exit → Act → World → Prop} (hgd : o.guard = none) (s x : Operand)
    (ho : o.op = .call { callee := .builtin .append, args := #[s, x], argTypes := #[26, 26] })
    (base : Nat) (v : Value) (bs : List UInt8) (hs : a.eval s = v) (hown : OB w base v bs)
    (v2 : Value) (cs : List UInt8) (hx : a.eval x = v2) (hr : RB w v2 cs) (hl : bs.length + cs.length ≤ lim) (hbase : base ≤ w.heap.size)
    (h : ∀ A n cap w', AppB base v bs cs w w' A n cap → wpList Tryd.prog ops Q rest (a.put o.dst (.slice A n cap)) w') :
    wpList Tryd.prog ops Q (o :: rest) a w :=
  wpList_plain hgd fun _ hK => wp_appB s x ho base v bs hs hown v2 cs hx hr hl hbase fun A n cap w' h1 => hK _ _ (h A n cap w' h1)

/-- In a region that draws its order. -/
theorem step_appB {w : World} {ops : Array Oper} {o : Oper} {a : Act} {K : Act → World → Prop} {Q : Exit → Act → World → Prop} {E : Prop} (hgd : o.guard = none) (s x : Operand)
    (ho : o.op = .call { callee := .builtin .append, args := #[s, x], argTypes := #[26, 26] })
    (base : Nat) (v : Value) (bs : List UInt8) (hs : a.eval s = v) (hown : OB w base v bs)
    (v2 : Value) (cs : List UInt8) (hx : a.eval x = v2) (hr : RB w v2 cs) (hl : bs.length + cs.length ≤ lim) (hbase : base ≤ w.heap.size)
    (h : ∀ A n cap w', AppB base v bs cs w w' A n cap → K (a.put o.dst (.slice A n cap)) w') :
    if Region.wanted o (yielded ops a.tmps) = true then Oper.wp Tryd.prog o a w K Q else E := by
  have hw : Region.wanted o (yielded ops a.tmps) = true := by simp [Region.wanted, hgd]
  rw [if_pos hw]
  exact wp_appB s x ho base v bs hs hown v2 cs hx hr hl hbase h

/-- Bytes laid over others from place off on. -/
def over (bs : List UInt8) (off : Nat) (cs : List UInt8) : List UInt8 := bs.take off ++ (cs ++ bs.drop (off + cs.length))
theorem over_length {bs cs : List UInt8} {off : Nat} (h : off + cs.length ≤ bs.length) : (over bs off cs).length = bs.length := by simp [over]; omega

theorem over_take {α : Type} (B D C : List α) (off : Nat) (h : off + C.length ≤ B.length) :
    ((B ++ D).take off ++ (C ++ (B ++ D).drop (off + C.length))).take B.length = B.take off ++ (C ++ B.drop (off + C.length)) := by
  have e1 : (B ++ D).take off = B.take off := List.take_append_of_le_length (by omega)
  have e2 : (B ++ D).drop (off + C.length) = B.drop (off + C.length) ++ D := List.drop_append_of_le_length h
  rw [e1, e2]
  have e3 : B.take off ++ (C ++ (B.drop (off + C.length) ++ D)) = (B.take off ++ (C ++ B.drop (off + C.length))) ++ D := by simp
  rw [e3]
  exact List.take_left' (by simp; omega)

theorem run_copyB {w : World} {base g N cap off dLen dCap : Nat} {bs cs : List UInt8} {v2 : Value} (ty : TypeId) (hown : OB w base (.slice (some ⟨g, 0, none⟩) N cap) bs) (hr : RB w v2 cs) (h0 : 0 < cs.length) (hd : cs.length ≤ dLen) (hf : off + cs.length ≤ bs.length) :
    ∃ w', (Builtin.copy_ #[26, 26] ty #[.slice (some ⟨g, off, none⟩) dLen dCap, v2]).run Tryd.prog w = .ok (goInt cs.length) w' ∧ OB w' base (.slice (some ⟨g, 0, none⟩) N cap) (over bs off cs) ∧ Upd [g] w w' := by
  obtain ⟨g2, off2, cap2, rfl, h1, h2, hc⟩ := hr.open_pos h0
  obtain ⟨hl, hrest⟩ := hown
  rcases hrest with ⟨he, _⟩ | ⟨g', cap', cur, he, hb, hg, hn, hm, hsz, ht⟩
  · cases he
  · injection he with e1 e2 e3
    injection e1 with e1
    injection e1 with e1
    subst e1; subst e3
    have hsz1 : (Tryd.prog.info? 5).map (·.size) = some 1 := by kernel_rfl
    simp only [Nat.mul_one] at hl hsz ht
    have hcl : cur.toList.length = cap := by simpa using hsz
    have hsrc : ∀ j v, (cs.map bv)[j]? = some v → w.cell? ((⟨g2, off2, none⟩ : Addr).add j) = some v := by
      intro j v hj
      have hjl := (List.getElem?_eq_some_iff.1 hj).1
      simp at hjl
      rw [Addr.add_lit, hc j hjl]
      simp [hjl, bv] at hj
      rw [← hj]
    have hrun := run_copy_row (P := Tryd.prog) w 26 26 ty 5 g off dLen dCap ⟨g2, off2, none⟩ cs.length cap2 cur 5 (cs.map bv) Tryd.underlying26 hsz1 hg (by rw [List.length_map]; exact (Nat.min_eq_left hd).symm) hsrc (by simp; omega) (bv_one cs)
    simp only [List.length_map] at hrun
    refine ⟨_, hrun, ?_, ⟨rfl, rfl, rfl, by simp [World.setRow], fun k hk hn => setRow_other w g k _ (by simpa using hn)⟩⟩
    unfold OB
    rw [over_length hf]
    refine ⟨by simp [over_length hf], .inr ⟨g, cap, _, ?_, hb, setRow_heap w g cur _ 5 _ hg, hn, hm, ?_, ?_⟩⟩
    · rw [e2]
    · simp; omega
    · simp only [Nat.mul_one]
      have e : cur.toList = bs.map bv ++ cur.toList.drop bs.length := by
        conv => lhs; rw [← List.take_append_drop bs.length cur.toList, ht]
      have hov := over_take (bs.map bv) (cur.toList.drop bs.length) (cs.map bv) off (by simpa using hf)
      rw [← e] at hov
      simp only [List.length_map] at hov
      simp only [List.append_assoc, List.map_append, List.map_take, List.map_drop, over] at hov ⊢
      exact hov

/-- copy, as a step of a region that draws its order. -/
theorem step_copyB {w : World} {ops : Array Oper} {o : Oper} {a : Act} {K : Act → World → Prop} {Q : Exit → Act → World → Prop} {E : Prop} (hgd : o.guard = none) (d s : Operand)
    (ho : o.op = .call { callee := .builtin .copy, args := #[d, s], argTypes := #[26, 26] })
    (base g N cap off dLen dCap : Nat) (bs cs : List UInt8) (v2 : Value) (hdst : a.eval d = .slice (some ⟨g, off, none⟩) dLen dCap) (hsrc : a.eval s = v2)
    (hown : OB w base (.slice (some ⟨g, 0, none⟩) N cap) bs) (hr : RB w v2 cs) (h0 : 0 < cs.length) (hd : cs.length ≤ dLen) (hf : off + cs.length ≤ bs.length)
    (h : ∀ w', OB w' base (.slice (some ⟨g, 0, none⟩) N cap) (over bs off cs) → Upd [g] w w' → K (a.put o.dst (goInt cs.length)) w') :
    if Region.wanted o (yielded ops a.tmps) = true then Oper.wp Tryd.prog o a w K Q else E := by
  have hw : Region.wanted o (yielded ops a.tmps) = true := by simp [Region.wanted, hgd]
  rw [if_pos hw]
  obtain ⟨w', hrun, h1, h2⟩ := run_copyB o.type (dCap := dCap) hown hr h0 hd hf
  unfold Oper.wp execOp
  simp only [ho, resolve, invoke, builtin, Sem.run_bind, Sem.run_pure, Result.andThen_ok, List.map_toArray, List.map_cons, List.map_nil, hdst, hsrc, hrun]
  exact h w' h1 h2

/-- A byte in a box of its own: what 'append(b, x)' appends. -/
theorem rb_one (w : World) (X : Int) (c : UInt8) (t : TypeId) (h : X = (c.toNat : Int)) : RB (w.alloc (.cells #[.int .u8 X] t)) (.slice (some ⟨w.heap.size, 0, none⟩) 1 1) [c] := by
  subst h
  exact Rd.lit w [bv c] t 1 1 rfl (by decide)

/-- 'b == nil'. -/
theorem eq_nilB (w : World) (a : Option Addr) (n c n' c' : Nat) : (binOp .eql 26 (.slice a n c) (.slice none n' c')).run Tryd.prog w = .ok (.bool a.isNone) w := Lib.run_eql_slice_nil w _ _ a n c n' c' Tryd.underlying26
theorem ne_nilB (w : World) (a : Option Addr) (n c n' c' : Nat) : (binOp .neq 26 (.slice a n c) (.slice none n' c')).run Tryd.prog w = .ok (.bool (!a.isNone)) w := run_neq_slice_nil_any w _ _ a n c n' c' Tryd.underlying26
theorem OB.nil (w : World) (base : Nat) : OB w base (.slice none 0 0) [] := World.ownsRow_nil w base _ _
/-- A new empty row. -/
theorem OB.made (w : World) (base : Nat) (hb : base ≤ w.heap.size) : OB (w.alloc (.cells #[] 5)) base (.slice (some ⟨w.heap.size, 0, none⟩) 0 0) [] := World.ownsRow_made w #[] 0 hb (Nat.zero_le _) rfl
end Go.Proofs.YtpkljdjdapgmjaaDoor
