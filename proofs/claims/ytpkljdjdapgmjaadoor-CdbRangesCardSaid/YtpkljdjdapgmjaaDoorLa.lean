/- Contracts of the reference's Lent and Kept (caissonref01), and strings made of bytes. -/
import Derived.Test.YtpkljdjdapgmjaaDoorFm
import Derived.Laws.BytesArg
namespace Go.Proofs.YtpkljdjdapgmjaaDoor
open Go.RowKit
set_option linter.unusedVariables false
set_option linter.unusedSimpArgs false

/-- Bytes as a string. -/
def bstr (bs : List UInt8) : ByteArray := ⟨bs.toArray⟩
theorem bstr_inj {a b : List UInt8} : bstr a = bstr b ↔ a = b := by
  constructor
  · intro h
    have := congrArg (fun s : ByteArray => s.data.toList) h
    simpa [bstr] using this
  · rintro rfl; rfl
theorem conv_B {w : World} {v : Value} {bs : List UInt8} (h : RB w v bs) : (convert 26 9 v).run Tryd.prog w = .ok (.string (bstr bs)) w := by
  obtain ⟨A, cap, rfl, _, _, _, hc⟩ := h.open_
  cases A with
  | none =>
    have : bs = [] := by
      cases bs with
      | nil => rfl
      | cons x l => obtain ⟨g, off, he, _⟩ := hc 0 (by simp); cases he
    subst this
    exact run_convert_bytes_nil w 26 5 Tryd.underlying26 Tryd.underlying5 _ _ 9 Tryd.underlying9
  | some a =>
    have hl : (loadCells a bs.length).run Tryd.prog w = .ok ((bs.map fun x => (x.toNat : Int)).map (Value.int .u8)).toArray w := by
      have := run_loadCells_list (P := Tryd.prog) w a (bs.map bv) (fun j v hj => by
        have hjl := (List.getElem?_eq_some_iff.1 hj).1
        simp at hjl
        obtain ⟨g, off, he, hcell⟩ := hc j hjl
        injection he with he
        subst he
        rw [Addr.add_lit, hcell]
        simp [bv, hjl] at hj
        rw [← hj])
      have e : (bs.map fun x => (x.toNat : Int)).map (Value.int .u8) = bs.map bv := by rw [List.map_map]; rfl
      rw [e]
      simpa using this
    rw [run_convert_bytes_string w 26 9 5 _ _ _ Tryd.underlying26 Tryd.underlying5 Tryd.underlying9, run_bytesToString w _ _ _ _ hl, foldl_push_bytes]
    have e : ∀ l : List UInt8, (l.map fun x => (x.toNat : Int)).map (fun n => UInt8.ofNat n.toNat) = l := by
      intro l
      induction l with
      | nil => rfl
      | cons x l ih => simp only [List.map_cons, ih]; simp
    rw [e]
    simp [bstr]

/-- v reads as bs, and lies in memory of the call's own, with the mark behind it. -/
structure Lnt (w : World) (base : Nat) (v : Value) (bs : List UInt8) : Prop where
  ex : ∃ g cap, v = .slice (some ⟨g, 0, none⟩) bs.length cap ∧ OB w base (.slice (some ⟨g, 0, none⟩) (bs.length + 1) cap) (bs ++ [0xa7])
theorem OB.ptr {w : World} {base : Nat} {v : Value} {bs : List UInt8} (h : OB w base v bs) (h0 : 0 < bs.length) : ∃ g cap, v = .slice (some ⟨g, 0, none⟩) bs.length cap ∧ bs.length ≤ cap ∧ cap ≤ 9223372036854775807 := by
  rcases h.2 with ⟨_, h1⟩ | ⟨g, cap, cur, he, _, _, h1, h2, _⟩
  · omega
  · exact ⟨g, cap, he, h1, by simp only [maxLen] at h2; omega⟩
theorem OB.take {w : World} {base g n cap : Nat} {bs : List UInt8} (h : OB w base (.slice (some ⟨g, 0, none⟩) n cap) bs) (k : Nat) (hk : k ≤ bs.length) : RB w (.slice (some ⟨g, 0, none⟩) k cap) (bs.take k) := by
  obtain ⟨A, cap', hv, h1, h2, _, h4⟩ := h.rb.open_
  injection hv with e1 e2 e3
  subst e1; subst e3
  have hl : (bs.take k).length = k := by simp; omega
  refine ⟨by simp, by omega, _, cap, by rw [hl], by omega, h2, by simp, fun j u hj => ?_⟩
  have hjl := (List.getElem?_eq_some_iff.1 hj).1
  simp at hjl
  obtain ⟨g', off', he, hcell⟩ := h4 j (by omega)
  injection he with he; injection he with e1 e2; subst e1; subst e2
  refine ⟨g, 0, rfl, ?_⟩
  rw [hcell]
  simp [bv, hjl] at hj
  rw [← hj]
theorem Lnt.rb {w : World} {base : Nat} {v : Value} {bs : List UInt8} (h : Lnt w base v bs) : RB w v bs := by
  obtain ⟨g, cap, rfl, ho⟩ := h.ex
  have := ho.take bs.length (by simp)
  simpa using this
theorem Lnt.upd {w w' : World} {base : Nat} {v : Value} {bs : List UInt8} (h : Lnt w base v bs) {S : List Nat} (hu : Upd S w w') (hn : ∀ g, v.ownBlock = some g → g ∉ S) : Lnt w' base v bs := by
  obtain ⟨g, cap, rfl, ho⟩ := h.ex
  exact ⟨g, cap, rfl, ho.upd hu hn⟩
theorem Lnt.upd0 {w w' : World} {base : Nat} {v : Value} {bs : List UInt8} (h : Lnt w base v bs) (hu : Upd [] w w') : Lnt w' base v bs := h.upd hu (by simp)
theorem Lnt.lt {w : World} {base : Nat} {v : Value} {bs : List UInt8} (h : Lnt w base v bs) : ∀ g, v.ownBlock = some g → base ≤ g ∧ g < w.heap.size := by
  obtain ⟨g, cap, rfl, ho⟩ := h.ex
  exact ho.lt

theorem lent_c (v : Value) (bs : List UInt8) (w : World) (hb : RB w v bs) (hl : bs.length + 1 ≤ lim) :
    Calls Tryd.prog 15 #[v] w (Ret fun r w' => Lnt w' w.heap.size r bs ∧ Upd [] w w') := by
  have Hb := Lib.hid hb
  have Hl := Lib.hid hl
  obtain ⟨A, cap, rfl, hb1, hb2, _, _⟩ := hb.open_
  clear hb hl
  go_enter Tryd.func15, Tryd.ntmps15
  go_wp2_with (at_builtin; refine wpList_appB rfl (.tmp 4) (.tmp 5) rfl w.heap.size _ [] rfl ?p2 _ bs rfl ?p4 ?p5 ?p6 ?_)
  case p2 => exact OB.nil _ _
  case p4 => exact Hb.out
  case p5 => have := Hl.out; simp only [List.length_nil, Nat.zero_add]; exact le_lim (by have := lim_le this; omega)
  case p6 => exact Nat.le_refl _
  intro A1 n1 c1 w1 g1
  have o1 := g1.own
  have u1 := g1.from_new (Upd.refl [] w) (by simp [Value.ownBlock])
  have z1 := g1.n_eq
  simp only [List.nil_append, List.length_nil, Nat.zero_add] at o1 z1
  subst z1
  have O1 := Lib.hid o1
  have U1 := Lib.hid u1
  clear g1 o1 u1
  go_wp2_with (at_builtin; refine wpList_appB rfl (.tmp 7) (.tmp 8) rfl w.heap.size _ bs rfl ?r2 _ [0xa7] rfl ?r4 ?r5 ?r6 ?_)
  case r2 => exact O1.out.upd0 ((Upd.refl _ _).alloc _)
  case r4 => exact rb_one _ _ _ _ rfl
  case r5 => exact Hl.out
  case r6 => have := U1.out.size; simp; omega
  intro A2 n2 c2 w2 g2
  have o2 := g2.own
  have u2 : Upd [] w w2 := g2.from_new (U1.out.alloc _) (fun g hg => .inr (O1.out.lt g hg).1)
  obtain ⟨g, cap', he, hc1, hc2⟩ := o2.ptr (by simp)
  injection he with e1 e2 e3
  subst e1; subst e2; subst e3
  simp only [List.length_append, List.length_cons, List.length_nil, Nat.zero_add] at hc1 o2
  have O2 := Lib.hid o2
  have U2 := Lib.hid u2
  clear g2 o2 u2
  go_wp2
  go_ret
  exact ⟨_, rfl, ⟨⟨_, _, rfl, O2.out⟩⟩, U2.out⟩

theorem kept_c (v u : Value) (bs : List UInt8) (base : Nat) (w : World) (h : Lnt w base v bs) (hu : RB w u bs) :
    Calls Tryd.prog 18 #[v, u] w fun e w' => e = .returned (.bool true) ∧ w = w' := by
  have k1 := conv_B h.rb
  have k2 := conv_B hu
  obtain ⟨A, cu, rfl, hu1, hu2, _, _⟩ := hu.open_
  obtain ⟨g, cap, rfl, ho⟩ := h.ex
  obtain ⟨g', cap', he, hc1, hc2⟩ := ho.ptr (by simp)
  injection he with e1 e2 e3
  subst e3
  clear e1 e2
  obtain ⟨A', cap'', he, _, _, _, hc⟩ := ho.rb.open_
  injection he with e1 e2 e3
  subst e1
  obtain ⟨g'', off, he, hm⟩ := hc bs.length (by simp)
  injection he with he; injection he with e4 e5
  subst e4; subst e5
  simp only [List.length_append, List.length_cons, List.length_nil, Nat.zero_add] at hc1
  have hm' : w.cell? ⟨g, bs.length, none⟩ = some (.int .u8 167) := by simpa using hm
  clear hm hc e2 e3 ho h hu
  go_enter Tryd.func18, Tryd.ntmps18
  go_wp2
  go_ret
  exact ⟨rfl, rfl⟩
end Go.Proofs.YtpkljdjdapgmjaaDoor
