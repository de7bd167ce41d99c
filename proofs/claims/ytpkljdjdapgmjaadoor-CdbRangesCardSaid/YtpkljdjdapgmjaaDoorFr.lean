/- Contracts of field.Reader. -/
import Derived.Test.YtpkljdjdapgmjaaDoorFx
namespace Go.Proofs.YtpkljdjdapgmjaaDoor
open Go.RowKit
set_option linter.unusedVariables false
set_option linter.unusedSimpArgs false

/-- Block p is a field.Reader that has still to read bs and bears the error why; it lies in block p, its bytes in the others of S. -/
structure Re T (w : World) (S : List Nat) (p : Nat) (bs : List UInt8) (why : Int) : Prop where
  ex : ∃ v, Blk w p [v, .int .i64 why] T ∧ RB w v bs ∧ v.ownBlock ≠ some p ∧ S = p :: v.ownBlock.toList

theorem Re.upd {T : TypeId} {w w' : World} {S R : List Nat} {p : Nat} {bs : List UInt8} {why : Int} (h : Re T w S p bs why) (hu : Upd R w w') (hd : ∀ x ∈ S, x ∉ R) : Re T w' S p bs why := by
  obtain ⟨v, h1, h2, h3, rfl⟩ := h.ex
  exact ⟨v, h1.upd hu (hd p (by simp)), h2.keep hu (fun g hg => hd g (by simp [hg])), h3, rfl⟩

/-- What a Reader is behind a step. -/
theorem re_step {T : TypeId} {w : World} {p : Nat} {v v' : Value} {why : Int} {bs' : List UInt8} (hB : Blk w p [v, .int .i64 why] T) (hne : v.ownBlock ≠ some p) (hR : RB w v' bs') (hb : v'.ownBlock = v.ownBlock) :
    Re T (w.setCell ⟨p, 0, none⟩ v') (p :: v.ownBlock.toList) p bs' why ∧ Upd [p] w (w.setCell ⟨p, 0, none⟩ v') := by
  have hU : Upd [p] w (w.setCell ⟨p, 0, none⟩ v') := (Upd.refl _ _).setCell (.inl (by simp)) _
  refine ⟨⟨v', hB.set 0 _, hR.keep hU ?_, by rw [hb]; exact hne, by rw [hb]⟩, hU⟩
  intro g hg
  simp
  rintro rfl
  rw [hb] at hg
  exact hne hg
theorem re_why {T : TypeId} {w : World} {p : Nat} {v : Value} {bs : List UInt8} {why why' : Int} (hB : Blk w p [v, .int .i64 why] T) (hR : RB w v bs) (hne : v.ownBlock ≠ some p) :
    Re T (w.setCell ⟨p, 1, none⟩ (.int .i64 why')) (p :: v.ownBlock.toList) p bs why' ∧ Upd [p] w (w.setCell ⟨p, 1, none⟩ (.int .i64 why')) := by
  have hU : Upd [p] w (w.setCell ⟨p, 1, none⟩ (.int .i64 why')) := (Upd.refl _ _).setCell (.inl (by simp)) _
  refine ⟨⟨v, hB.set 1 _, hR.keep hU ?_, hne, rfl⟩, hU⟩
  intro g hg
  simp
  rintro rfl
  exact hne hg

theorem newReader_c (v : Value) (bs : List UInt8) (w : World) (hb : RB w v bs) (hl : bs.length ≤ lim) :
    Calls Tryd.prog 46 #[v] w (Ret fun r w' => ∃ p S, r = ptr p ∧ Re 111 w' S p bs 0 ∧ (∀ x ∈ S, w.heap.size ≤ x) ∧ Upd [] w w') := by
  have Hb := Lib.hid hb
  have Hl := Lib.hid hl
  clear hb hl
  go_enter Tryd.func46, Tryd.ntmps46
  go_wp2_with fail
  refine (clone_c _ _ _ Hb.out Hl.out).mono ?_
  rintro e w1 ⟨r, rfl, h1, h2⟩
  obtain ⟨A, cap, hr⟩ := h1.slice
  subst hr
  go_wp2_with fail
  go_ret
  have hsz := h2.size
  refine ⟨_, rfl, w1.heap.size, w1.heap.size :: (Value.slice A bs.length cap).ownBlock.toList, rfl, ⟨_, Blk.new w1 [_, _] _, Rd.alloc h1.rb _, ?_, rfl⟩, ?_, h2.alloc _⟩
  · intro e
    have := (h1.lt _ e).2
    omega
  · intro x hx
    simp at hx
    rcases hx with rfl | hx
    · omega
    · exact (h1.lt _ hx).1

theorem ok_c (S : List Nat) (p : Nat) (bs : List UInt8) (why : Int) (w : World) (hR : Re 111 w S p bs why) :
    Calls Tryd.prog 59 #[ptr p] w fun e w' => e = .returned (.bool (why == 0)) ∧ w = w' := by
  obtain ⟨v, hB, _, _, rfl⟩ := hR.ex
  have c1 := hB.cell 1 _ rfl
  clear hB hR
  go_enter Tryd.func59, Tryd.ntmps59
  go_wp2
  go_ret
  exact ⟨rfl, rfl⟩

theorem get0_c (v : Value) (bs : List UInt8) (size : Nat) (w : World) (hb : RB w v bs) (h1 : 1 ≤ size) (h8 : size ≤ 8) (hi : size ≤ bs.length) :
    Calls Tryd.prog 36 #[v, .int .i64 0, .int .i64 size] w fun e w' => e = .returned (.tuple #[.int .u64 (nb (bs.take size) : Nat), .int .i64 0]) ∧ w = w' := by
  have h := get_c v bs 0 size w hb h1 h8 (by omega)
  simpa using h
theorem get0_no (v : Value) (bs : List UInt8) (size : Nat) (w : World) (hb : RB w v bs) (h1 : 1 ≤ size) (h8 : size ≤ 8) (hi : bs.length < size) :
    Calls Tryd.prog 36 #[v, .int .i64 0, .int .i64 size] w fun e w' => e = .returned (.tuple #[.int .u64 0, .int .i64 1]) ∧ w = w' := by
  have h := get_no v bs 0 size w hb h1 h8 (by omega)
  simpa using h
/-- What is left of a row when it is cut at its begin. -/
theorem RB.cut {w : World} {g off n cap k : Nat} {bs : List UInt8} (h : RB w (.slice (some ⟨g, off, none⟩) n cap) bs) (hn : n = bs.length) (hk : k ≤ n) (o' : Nat) (ho : k < n → o' = off + k) :
    RB w (.slice (some ⟨g, o', none⟩) (n - k) (cap - k)) (bs.drop k) := by
  subst hn
  obtain ⟨A, cap', hv, h1, h2, _, h4⟩ := h.open_
  injection hv with ha hb hc
  subst ha; subst hc
  have hl : (bs.drop k).length = bs.length - k := by simp
  refine ⟨by simp, by omega, _, cap - k, by rw [hl], by omega, by omega, by simp, fun j u hj => ?_⟩
  have hjl := (List.getElem?_eq_some_iff.1 hj).1
  simp at hjl
  obtain ⟨g', off', he, hcell⟩ := h4 (k + j) (by omega)
  injection he with he; injection he with e1 e2; subst e1; subst e2
  refine ⟨g, o', rfl, ?_⟩
  rw [ho (by omega), Nat.add_assoc, hcell]
  simp [bv, hjl] at hj
  rw [← hj]

theorem rnum_c (S : List Nat) (p : Nat) (bs : List UInt8) (size : Nat) (w : World) (hR : Re 111 w S p bs 0) (h1 : 1 ≤ size) (h8 : size ≤ 8) (hl : size ≤ bs.length) :
    Calls Tryd.prog 47 #[ptr p, .int .i64 size] w fun e w' => e = .returned (.int .i64 (wrap64 (nb (bs.take size) : Nat))) ∧ Re 111 w' S p (bs.drop size) 0 ∧ Upd [p] w w' := by
  have Hok := Lib.hid (ok_c S p bs 0 w hR)
  obtain ⟨v, hB, hRb, hne, rfl⟩ := hR.ex
  have c0 := hB.cell 0 _ rfl
  have f0 := hB.free 0
  obtain ⟨g, off, cap, rfl, hlc, hcm, hc⟩ := hRb.open_pos (by omega)
  have HB := Lib.hid hB
  have HR := Lib.hid hRb
  have Hne := Lib.hid hne
  clear hc hB hRb hne hR
  have hz : ((size : Int) < 1) = False := by simp; omega
  go_enter Tryd.func47, Tryd.ntmps47
  go_wp2_with fail
  refine Hok.out.mono ?_
  rintro e w1 ⟨rfl, rfl⟩
  go_wp2_with fail
  refine (get0_c _ _ _ _ HR.out h1 h8 hl).mono ?_
  rintro e w1 ⟨rfl, rfl⟩
  by_cases hcs : cap = size
  · subst hcs
    have R := re_step HB.out Hne.out (RB.cut HR.out rfl hl off (by omega)) rfl
    rw [Nat.sub_self, show bs.length - cap = 0 by omega] at R
    have HF := Lib.hid R
    clear R
    go_wp2
    go_ret
    exact ⟨rfl, HF.out⟩
  · have R := re_step HB.out Hne.out (RB.cut HR.out rfl hl (off + size) (fun _ => rfl)) rfl
    have HF := Lib.hid R
    clear R
    go_wp2
    go_ret
    exact ⟨rfl, HF.out⟩

/-- Too short. -/
theorem rnum_short (S : List Nat) (p : Nat) (bs : List UInt8) (size : Nat) (w : World) (hR : Re 111 w S p bs 0) (h1 : 1 ≤ size) (h8 : size ≤ 8) (hl : bs.length < size) :
    Calls Tryd.prog 47 #[ptr p, .int .i64 size] w fun e w' => e = .returned (.int .i64 0) ∧ Re 111 w' S p bs 10 ∧ Upd [p] w w' := by
  have Hok := Lib.hid (ok_c S p bs 0 w hR)
  obtain ⟨v, hB, hRb, hne, rfl⟩ := hR.ex
  have c0 := hB.cell 0 _ rfl
  have c1 := hB.cell 1 _ rfl
  have f1 := hB.free 1
  obtain ⟨A, cap, rfl, hlc, hcm, hc⟩ := hRb.open_
  have HF := Lib.hid (re_why (why' := 10) hB hRb hne)
  have HR := Lib.hid hRb
  clear hc hB hRb hne hR
  have hz : ((size : Int) < 1) = False := by simp; omega
  go_enter Tryd.func47, Tryd.ntmps47
  go_wp2_with fail
  refine Hok.out.mono ?_
  rintro e w1 ⟨rfl, rfl⟩
  go_wp2_with fail
  refine (get0_no _ _ _ _ HR.out h1 h8 hl).mono ?_
  rintro e w1 ⟨rfl, rfl⟩
  go_wp2
  go_ret
  exact ⟨rfl, HF.out⟩

/-- A Reader that bears an error answers 0. -/
theorem rnum_dead (S : List Nat) (p : Nat) (bs : List UInt8) (why : Int) (size : Int) (w : World) (hR : Re 111 w S p bs why) (hw : why ≠ 0) :
    Calls Tryd.prog 47 #[ptr p, .int .i64 size] w fun e w' => e = .returned (.int .i64 0) ∧ w = w' := by
  have Hok := Lib.hid (ok_c S p bs why w hR)
  have hz : (why == 0) = false := by simpa using hw
  clear hR
  go_enter Tryd.func47, Tryd.ntmps47
  go_wp2_with fail
  refine Hok.out.mono ?_
  rintro e w1 ⟨rfl, rfl⟩
  go_wp2
  go_ret
  exact ⟨rfl, rfl⟩

/-- What End answers. -/
def endB (why : Int) (n : Nat) : Int := if why = 0 ∧ 0 < n then 11 else why
theorem endB_pos {n : Nat} (h : 0 < n) : endB 0 n = 11 := by simp [endB, h]
theorem endB_zero : endB 0 0 = 0 := rfl
theorem endB_bad {why : Int} {n : Nat} (h : why ≠ 0) : endB why n = why := by simp [endB, h]
theorem rend_c (S : List Nat) (p : Nat) (bs : List UInt8) (why : Int) (w : World) (hR : Re 111 w S p bs why) :
    Calls Tryd.prog 48 #[ptr p] w fun e w' => e = .returned (.int .i64 (endB why bs.length)) ∧ w = w' := by
  obtain ⟨v, hB, hRb, _, rfl⟩ := hR.ex
  have c0 := hB.cell 0 _ rfl
  have c1 := hB.cell 1 _ rfl
  obtain ⟨A, cap, rfl, hlc, hcm, hc⟩ := hRb.open_
  clear hc hB hR hRb
  by_cases hw : why = 0
  · subst hw
    by_cases h0 : 0 < bs.length
    · go_enter Tryd.func48, Tryd.ntmps48
      go_wp2
      go_ret
      exact ⟨ret_int (endB_pos h0).symm, rfl⟩
    · obtain rfl : bs = [] := List.eq_nil_of_length_eq_zero (by omega)
      clear h0
      go_enter Tryd.func48, Tryd.ntmps48
      go_wp2
      go_ret
      exact ⟨rfl, rfl⟩
  · have hz : (why == 0) = false := by simpa using hw
    go_enter Tryd.func48, Tryd.ntmps48
    go_wp2
    go_ret
    exact ⟨ret_int (endB_bad hw).symm, rfl⟩
end Go.Proofs.YtpkljdjdapgmjaaDoor
