/- Readers whose memory lies below a bound: what is made later may be written beside them. Printed by a program (wip/printrr.py). -/
import Derived.Test.YtpkljdjdapgmjaaDoorWx
namespace Go.Proofs.YtpkljdjdapgmjaaDoor
open Go.RowKit
set_option linter.unusedVariables false
set_option linter.unusedSimpArgs false

/-- Block p is a Reader in memory made since w0, all of it below block B. -/
structure Rb (T : TypeId) (w0 w : World) (B : Nat) (p : Nat) (st : List UInt8 × Int) : Prop where
  ex : ∃ S, Re T w S p st.1 st.2 ∧ Upd [] w0 w ∧ w0.heap.size ≤ p ∧ ∀ x ∈ S, x < B
theorem Rb.u {T : TypeId} {w0 w : World} {B p : Nat} {st : List UInt8 × Int} (h : Rb T w0 w B p st) : Upd [] w0 w := by
  obtain ⟨S, _, h, _⟩ := h.ex
  exact h
theorem Rb.upd {T : TypeId} {w0 w w' : World} {B p : Nat} {st : List UInt8 × Int} (h : Rb T w0 w B p st) {R : List Nat} (hu : Upd R w w') (hR : ∀ x ∈ R, B ≤ x) (h0 : ∀ x ∈ R, w0.heap.size ≤ x) : Rb T w0 w' B p st := by
  obtain ⟨S, h1, h2, h3, h4⟩ := h.ex
  exact ⟨S, h1.upd hu (fun x hx hm => by have := h4 x hx; have := hR x hm; omega), h2.trans' hu (fun x hx => .inr (h0 x hx)), h3, h4⟩
theorem Rb.upd0 {T : TypeId} {w0 w w' : World} {B p : Nat} {st : List UInt8 × Int} (h : Rb T w0 w B p st) (hu : Upd [] w w') : Rb T w0 w' B p st := h.upd hu (by simp) (by simp)
theorem Rb.step {T : TypeId} {w0 w w' : World} {B p : Nat} {S : List Nat} {st' : List UInt8 × Int} (h2 : Upd [] w0 w) (h3 : w0.heap.size ≤ p) (h4 : ∀ x ∈ S, x < B)
    (g1 : Re T w' S p st'.1 st'.2) (g2 : Upd [p] w w') : Rb T w0 w' B p st' ∧ Upd [p] w w' :=
  ⟨⟨S, g1, h2.trans' g2 (fun x hx => by simp at hx; subst hx; exact .inr h3), h3, h4⟩, g2⟩
theorem Rb.p_lt {T : TypeId} {w0 w : World} {B p : Nat} {st : List UInt8 × Int} (h : Rb T w0 w B p st) : p < B := by
  obtain ⟨S, h1, _, _, h4⟩ := h.ex
  exact h4 p h1.p_mem
/-- A number of a few bytes. -/
theorem numR_small {size : Nat} {bs : List UInt8} (hs : size ≤ 4) (h : size ≤ bs.length) : numR size (bs, 0) = (((nb (bs.take size) : Nat) : Int), (bs.drop size, 0)) := by
  have h1 := nb_lt (bs.take size)
  have h2 : 256 ^ (bs.take size).length ≤ 256 ^ 4 := Nat.pow_le_pow_right (by omega) (by rw [List.length_take]; omega)
  have h3 : (256 : Nat) ^ 4 = 4294967296 := by decide
  unfold numR
  rw [if_neg (by simp), if_neg (by simp; omega)]
  refine Prod.ext ?_ rfl
  show wrap64 ((nb (bs.take size) : Nat) : Int) = _
  unfold wrap64
  omega
theorem nb_small {size : Nat} {bs : List UInt8} (hs : size ≤ 4) : nb (bs.take size) < 256 ^ size := by
  have h1 := nb_lt (bs.take size)
  have h2 : 256 ^ (bs.take size).length ≤ 256 ^ size := Nat.pow_le_pow_right (by omega) (by rw [List.length_take]; omega)
  omega

theorem rb_new (v : Value) (bs : List UInt8) (w : World) (hb : RB w v bs) (hl : bs.length ≤ lim) :
    Calls Tryd.prog 46 #[v] w (Ret fun r w' => ∃ p, r = ptr p ∧ Rb 111 w w' w'.heap.size p (bs, 0)) := by
  have Hb := Lib.hid hb
  have Hl := Lib.hid hl
  clear hb hl
  go_enter Tryd.func46, Tryd.ntmps46
  go_wp2_with fail
  refine (clone_c _ _ _ Hb.out Hl.out).mono ?_
  rintro e w1 ⟨r, rfl, h1, h2⟩
  obtain ⟨A, cap, hr⟩ := h1.slice
  subst hr
  go_wp2_with fail
  go_ret
  have hsz := h2.size
  refine ⟨_, rfl, w1.heap.size, rfl, ⟨w1.heap.size :: (Value.slice A bs.length cap).ownBlock.toList, ⟨_, Blk.new w1 [_, _] _, Rd.alloc h1.rb _, ?_, rfl⟩, h2.alloc _, hsz, ?_⟩⟩
  · intro e
    have := (h1.lt _ e).2
    omega
  · intro x hx
    simp at hx
    rcases hx with rfl | hx
    · simp
    · have := (h1.lt _ hx).2; simp; omega
theorem rb_of (v : Value) (bs : List UInt8) (w : World) (hb : RB w v bs) (hl : bs.length ≤ lim) :
    Calls Tryd.prog 49 #[v] w (Ret fun r w' => ∃ p, r = ptr p ∧ Rb 112 w w' w'.heap.size p (bs, 0)) := by
  have Hb := Lib.hid hb
  have Hl := Lib.hid hl
  clear hb hl
  go_enter Tryd.func49, Tryd.ntmps49
  go_wp2_with (at_builtin; refine wpList_appB rfl (.tmp 10) (.tmp 11) rfl w.heap.size _ [] rfl ?q1 _ bs rfl ?q2 ?q3 ?q4 ?_)
  case q1 => exact OB.nil _ _
  case q2 => exact Hb.out.upd ((Upd.refl _ _).alloc _)
  case q3 => simpa using Hl.out
  case q4 => simp
  intro A n2 cap w2 h1
  have hB := h1.blk (Blk.new w [.slice none 0 0, .int .i64 0] 112) (by simp [Value.ownBlock])
  have c2 := hB.cell 0 _ rfl
  have f2 := hB.free 0
  have HB := Lib.hid hB
  clear hB
  go_wp2
  go_ret
  have hn2 : n2 = bs.length := by simpa using h1.n_eq
  subst hn2
  have hO : OB w2 w.heap.size (.slice A bs.length cap) bs := by simpa using h1.own
  have hneA : (Value.slice A bs.length cap).ownBlock ≠ some w.heap.size := by
    intro e
    have hA : (Value.slice A bs.length cap).ownBlock = A.map (·.block) := by cases A <;> rfl
    rw [hA] at e
    rcases h1.at_ with h | h
    · rw [h] at e; simp [Value.ownBlock] at e
    · rw [h] at e; simp at e
  have hU : Upd [] w (w2.setCell ⟨w.heap.size, 0, none⟩ (.slice A bs.length cap)) := (h1.from_new ((Upd.refl _ _).alloc _) (by simp [Value.ownBlock])).setCell (.inr (Nat.le_refl _)) _
  have hlt := HB.out.lt
  refine ⟨_, rfl, w.heap.size, rfl, ⟨w.heap.size :: (Value.slice A bs.length cap).ownBlock.toList, ⟨_, HB.out.set 0 _, ?_, hneA, rfl⟩, hU, Nat.le_refl _, ?_⟩⟩
  · refine hO.rb.keep ((Upd.refl [w.heap.size] _).setCell (.inl (by simp)) _) ?_
    intro g hg
    simp
    rintro rfl
    exact hneA hg
  · intro x hx
    have hs : (w2.setCell ⟨w.heap.size, 0, none⟩ (.slice A bs.length cap)).heap.size = w2.heap.size := by simp [World.setCell]
    rw [hs]
    simp at hx
    rcases hx with rfl | hx
    · exact hlt
    · exact (hO.lt _ hx).2
theorem rb_num (T0 : World) (size B : Nat) (p : Nat) (st : List UInt8 × Int) (w : World) (h : Rb 111 T0 w B p st) (hs1 : 1 ≤ size) (hs8 : size ≤ 8) :
    Calls Tryd.prog 47 #[ptr p, .int .i64 size] w fun e w' => e = .returned (.int .i64 (numR size st).1) ∧ Rb 111 T0 w' B p (numR size st).2 ∧ Upd [p] w w' := by
  obtain ⟨S, h1, h2, h3, h4⟩ := h.ex
  obtain ⟨bs, why⟩ := st
  by_cases hw : why = 0
  · subst hw
    by_cases hf : bs.length < size
    · have e : numR size (bs, 0) = (0, (bs, 10)) := by unfold numR; rw [if_neg (by simp), if_pos hf]
      rw [e]
      refine (rnum_short S p bs size w h1 hs1 hs8 hf).mono ?_
      rintro e w' ⟨rfl, g1, g2⟩
      exact ⟨rfl, Rb.step (st' := (bs, 10)) h2 h3 h4 g1 g2⟩
    · have e : numR size (bs, 0) = (wrap64 (nb (bs.take size) : Nat), (bs.drop size, 0)) := by unfold numR; rw [if_neg (by simp), if_neg hf]
      rw [e]
      refine (rnum_c S p bs size w h1 hs1 hs8 (by omega)).mono ?_
      rintro e w' ⟨rfl, g1, g2⟩
      exact ⟨rfl, Rb.step (st' := (bs.drop size, 0)) h2 h3 h4 g1 g2⟩
  · have e : numR size (bs, why) = (0, (bs, why)) := by unfold numR; rw [if_pos hw]
    rw [e]
    refine (rnum_dead S p bs why size w h1 hw).mono ?_
    rintro e w' ⟨rfl, rfl⟩
    exact ⟨rfl, h, Upd.refl _ _⟩
theorem rb_rnum (T0 : World) (size B : Nat) (p : Nat) (st : List UInt8 × Int) (w : World) (h : Rb 112 T0 w B p st) (hs1 : 1 ≤ size) (hs8 : size ≤ 8) :
    Calls Tryd.prog 50 #[ptr p, .int .i64 size] w fun e w' => e = .returned (.int .i64 (numR size st).1) ∧ Rb 112 T0 w' B p (numR size st).2 ∧ Upd [p] w w' := by
  obtain ⟨S, h1, h2, h3, h4⟩ := h.ex
  obtain ⟨bs, why⟩ := st
  by_cases hw : why = 0
  · subst hw
    by_cases hf : bs.length < size
    · have e : numR size (bs, 0) = (0, (bs, 10)) := by unfold numR; rw [if_neg (by simp), if_pos hf]
      rw [e]
      refine (rrnum_short S p bs size w h1 hs1 hs8 hf).mono ?_
      rintro e w' ⟨rfl, g1, g2⟩
      exact ⟨rfl, Rb.step (st' := (bs, 10)) h2 h3 h4 g1 g2⟩
    · have e : numR size (bs, 0) = (wrap64 (nb (bs.take size) : Nat), (bs.drop size, 0)) := by unfold numR; rw [if_neg (by simp), if_neg hf]
      rw [e]
      refine (rrnum_c S p bs size w h1 hs1 hs8 (by omega)).mono ?_
      rintro e w' ⟨rfl, g1, g2⟩
      exact ⟨rfl, Rb.step (st' := (bs.drop size, 0)) h2 h3 h4 g1 g2⟩
  · have e : numR size (bs, why) = (0, (bs, why)) := by unfold numR; rw [if_pos hw]
    rw [e]
    refine (rrnum_dead S p bs why size w h1 hw).mono ?_
    rintro e w' ⟨rfl, rfl⟩
    exact ⟨rfl, h, Upd.refl _ _⟩
end Go.Proofs.YtpkljdjdapgmjaaDoor
