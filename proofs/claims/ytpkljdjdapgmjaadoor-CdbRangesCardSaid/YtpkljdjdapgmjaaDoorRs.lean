/- Contracts of Ranges, the program's. -/
import Derived.Test.YtpkljdjdapgmjaaDoorRr
import Derived.Test.YtpkljdjdapgmjaaDoorRq
namespace Go.Proofs.YtpkljdjdapgmjaaDoor
open Go.RowKit
set_option linter.unusedVariables false
set_option linter.unusedSimpArgs false

/-- A range, read. -/
def elR (d : List UInt8) : Nat × Int := (nb (d.take 8), ((nb ((d.drop 8).take 4) : Nat) : Int))
def zR (d : List UInt8) : Nat := nb (((d.drop 8).drop 4).take 4)
def elsR (d : List UInt8) : Nat → List (Nat × Int)
  | 0 => []
  | k + 1 => elsR d k ++ [elR (d.drop (16 * k))]
theorem elsR_length (d : List UInt8) (k : Nat) : (elsR d k).length = k := by
  induction k with
  | zero => rfl
  | succ k ih => simp [elsR, ih]
/-- Is nothing but 0 behind each of the first k ranges? -/
def zsR (d : List UInt8) (k : Nat) : Bool := (List.range k).all fun j => zR (d.drop (16 * j)) == 0
theorem zsR_succ (d : List UInt8) (k : Nat) : zsR d (k + 1) = (zsR d k && (zR (d.drop (16 * k)) == 0)) := by simp [zsR, List.range_succ]
theorem zsR_false {d : List UInt8} {k m : Nat} (hk : k < m) (h : zR (d.drop (16 * k)) ≠ 0) : zsR d m = false := by
  rw [Bool.eq_false_iff]
  intro ha
  have := List.all_eq_true.1 ha k (List.mem_range.2 hk)
  simp at this
  exact h this
def headOk (bs : List UInt8) : Prop := nb (bs.take 2) + 2 = bs.length ∧ nb ((bs.drop 2).take 2) + 8 = bs.length ∧ nb ((bs.drop 2).take 2) % 16 = 0 ∧ nb (((bs.drop 2).drop 2).take 4) = 0
instance (bs : List UInt8) : Decidable (headOk bs) := by unfold headOk; infer_instance
/-- What Ranges answers: the error, the ranges. -/
def rgB (bs : List UInt8) : Int × List (Nat × Int) :=
  if bs.length < 8 then (10, [])
  else if headOk bs then (if zsR (bs.drop 8) ((bs.length - 8) / 16) then (if 32 < (bs.length - 8) / 16 then (3, []) else (0, elsR (bs.drop 8) ((bs.length - 8) / 16))) else (11, []))
  else (11, [])
theorem rgB_short {bs : List UInt8} (h : bs.length < 8) : rgB bs = (10, []) := by unfold rgB; rw [if_pos h]
theorem rgB_head {bs : List UInt8} (h : ¬ bs.length < 8) (h1 : ¬ headOk bs) : rgB bs = (11, []) := by unfold rgB; rw [if_neg h, if_neg h1]
theorem rgB_zero {bs : List UInt8} (h : ¬ bs.length < 8) (h1 : headOk bs) (h2 : zsR (bs.drop 8) ((bs.length - 8) / 16) = false) : rgB bs = (11, []) := by unfold rgB; rw [if_neg h, if_pos h1, h2]; rfl
theorem rgB_long {bs : List UInt8} (h : ¬ bs.length < 8) (h1 : headOk bs) (h2 : zsR (bs.drop 8) ((bs.length - 8) / 16) = true) (h3 : 32 < (bs.length - 8) / 16) : rgB bs = (3, []) := by unfold rgB; rw [if_neg h, if_pos h1, if_pos h2, if_pos h3]
theorem rgB_ok {bs : List UInt8} (h : ¬ bs.length < 8) (h1 : headOk bs) (h2 : zsR (bs.drop 8) ((bs.length - 8) / 16) = true) (h3 : ¬ 32 < (bs.length - 8) / 16) : rgB bs = (0, elsR (bs.drop 8) ((bs.length - 8) / 16)) := by unfold rgB; rw [if_neg h, if_pos h1, if_pos h2, if_neg h3]

set_option maxHeartbeats 2000000 in
theorem ranges_c (v : Value) (bs : List UInt8) (w : World) (hb : RB w v bs) (hl : bs.length ≤ lim) :
    Calls Tryd.prog 29 #[v] w (Ret fun r w' => ∃ u, r = .tuple #[u, .int .i64 (rgB bs).1] ∧ OR_cdb w' w.heap.size u (rgB bs).2 ∧ Upd [] w w') := by
  have HB := Lib.hid hb
  have HL := Lib.hid hl
  obtain ⟨A, cap, rfl, hb1, hb2, _, _⟩ := hb.open_
  clear hb hl
  by_cases h8 : bs.length < 8
  · have hp := rgB_short h8
    have HP := Lib.hid hp
    clear hp
    go_enter Tryd.func29, Tryd.ntmps29
    go_wp2_with fail
    go_ret2
    rw [HP.out]
    exact ⟨_, rfl, _, rfl, OR_cdb.nil _ _, Upd.refl _ _⟩
  · obtain ⟨a, ha⟩ : ∃ a, a = nb (bs.take 2) := ⟨_, rfl⟩
    obtain ⟨n, hn⟩ : ∃ n, n = nb ((bs.drop 2).take 2) := ⟨_, rfl⟩
    obtain ⟨z, hz⟩ : ∃ z, z = nb (((bs.drop 2).drop 2).take 4) := ⟨_, rfl⟩
    have a1 := numR_small (size := 2) (bs := bs) (by omega) (by omega)
    have a2 := numR_small (size := 2) (bs := bs.drop 2) (by omega) (by simp; omega)
    have a3 := numR_small (size := 4) (bs := (bs.drop 2).drop 2) (by omega) (by simp; omega)
    have b1 := nb_small (size := 2) (bs := bs) (by omega)
    have b2 := nb_small (size := 2) (bs := bs.drop 2) (by omega)
    have b3 := nb_small (size := 4) (bs := (bs.drop 2).drop 2) (by omega)
    rw [← ha] at a1 b1
    rw [← hn] at a2 b2
    rw [← hz] at a3 b3
    simp only [Nat.reducePow] at b1 b2 b3
    have hd : ((bs.drop 2).drop 2).drop 4 = bs.drop 8 := by simp
    rw [hd] at a3
    have A1 := Lib.hid a1
    have A2 := Lib.hid a2
    have A3 := Lib.hid a3
    have hho : headOk bs ↔ (a + 2 = bs.length ∧ n + 8 = bs.length ∧ n % 16 = 0 ∧ z = 0) := by unfold headOk; rw [← ha, ← hn, ← hz]
    have HHO := Lib.hid hho
    clear a1 a2 a3 ha hn hz hd hho
    go_enter Tryd.func29, Tryd.ntmps29
    go_wp2_with fail
    refine (rb_new _ bs _ HB.out HL.out).mono ?_
    rintro e w1 ⟨r, rfl, p, rfl, g1⟩
    have G1 := Lib.hid g1
    clear g1
    go_wp2_with fail
    refine (rb_num w 2 _ p _ _ G1.out (by decide) (by decide)).mono ?_
    rintro e w2 ⟨rfl, g1, g2⟩
    have hs2 := g2.size
    clear g2
    rw [A1.out] at g1 ⊢
    have G2 := Lib.hid g1
    clear g1
    go_wp2_with fail
    refine (rb_num w 2 _ p _ _ G2.out (by decide) (by decide)).mono ?_
    rintro e w3 ⟨rfl, g1, g2⟩
    have hs3 := g2.size
    clear g2
    rw [A2.out] at g1 ⊢
    have G3 := Lib.hid g1
    clear g1
    go_wp2_with fail
    refine (rb_num w 4 _ p _ _ G3.out (by decide) (by decide)).mono ?_
    rintro e w4 ⟨rfl, g1, g2⟩
    have hs4 := g2.size
    clear g2
    rw [A3.out] at g1 ⊢
    have G4 := Lib.hid g1
    clear g1
    by_cases hk : headOk bs
    · obtain ⟨k1, k2, k3, k4⟩ := HHO.out.1 hk
      subst k4
      have x1 : ((a : Int) != (bs.length : Int) - 2) = false := by rw [bne_eq_false_iff_eq]; omega
      have x2 : ((n : Int) != (bs.length : Int) - 8) = false := by rw [bne_eq_false_iff_eq]; omega
      have x3 : ((n : Int) % 16 != 0) = false := by rw [bne_eq_false_iff_eq]; omega
      have HK := Lib.hid hk
      have hm : (bs.length - 8) / 16 = n / 16 := by omega
      have HM := Lib.hid hm
      have hlen : bs.length = n + 8 := by omega
      have HLEN := Lib.hid hlen
      have hn16 : n = 16 * (n / 16) := by omega
      have HN16 := Lib.hid hn16
      clear hk k1 k2 k3 hm hlen hn16
      go_wp2_with fail
      have hB := G1.out.u.size
      go_loopw [8, 44] (fun vo vi wr => ∃ k : Nat, k ≤ n / 16 ∧ vi = .int .i64 (k : Int) ∧ Rb 111 w wr w1.heap.size p ((bs.drop 8).drop (16 * k), 0) ∧ OR_cdb wr w1.heap.size vo (elsR (bs.drop 8) k) ∧ zsR (bs.drop 8) k = true ∧ w1.heap.size ≤ wr.heap.size) (fun _ vi _ => n / 16 - (intOf vi).toNat)
      case atStart => exact ⟨0, by omega, rfl, by simpa using G4.out, OR_cdb.nil _ _, rfl, by omega⟩
      case round =>
        obtain ⟨k, hk, rfl, r1, r2, r3, r4⟩ := hrel
        obtain ⟨Ao, co, hvo⟩ := r2.slice
        rw [elsR_length] at hvo
        subst hvo
        have R1 := Lib.hid r1
        have R2 := Lib.hid r2
        have R3 := Lib.hid r3
        have hpB := r1.p_lt
        by_cases hlt : k < n / 16
        · obtain ⟨d, hd⟩ : ∃ d, d = (bs.drop 8).drop (16 * k) := ⟨_, rfl⟩
          have hdl : d.length = n - 16 * k := by rw [hd]; simp; have := HLEN.out; omega
          have q1 := numR8 d (by omega)
          have q2 := numR_small (size := 4) (bs := d.drop 8) (by omega) (by simp; omega)
          have q3 := numR_small (size := 4) (bs := (d.drop 8).drop 4) (by omega) (by simp; omega)
          have hfin : ((d.drop 8).drop 4).drop 4 = (bs.drop 8).drop (16 * (k + 1)) := by rw [hd]; simp only [List.drop_drop]; congr 1 <;> omega
          have hel : elsR (bs.drop 8) (k + 1) = elsR (bs.drop 8) k ++ [(nb (d.take 8), ((nb ((d.drop 8).take 4) : Nat) : Int))] := by rw [hd]; rfl
          have hzr : zR ((bs.drop 8).drop (16 * k)) = nb (((d.drop 8).drop 4).take 4) := by rw [hd]; rfl
          have hla := nb8 d
          have hnn := nb_small (size := 4) (bs := d.drop 8) (by omega)
          have hzz := nb_small (size := 4) (bs := (d.drop 8).drop 4) (by omega)
          simp only [Nat.reducePow] at hnn hzz
          rw [hfin] at q3
          rw [← hd] at R1
          obtain ⟨la, hla'⟩ : ∃ x, x = nb (d.take 8) := ⟨_, rfl⟩
          obtain ⟨nn, hnn'⟩ : ∃ x, x = nb ((d.drop 8).take 4) := ⟨_, rfl⟩
          obtain ⟨zz, hzz'⟩ : ∃ x, x = nb (((d.drop 8).drop 4).take 4) := ⟨_, rfl⟩
          rw [← hla'] at q1 hel hla
          rw [← hnn'] at q2 hel hnn
          rw [← hzz'] at q3 hzr hzz
          have Q1 := Lib.hid q1
          have Q2 := Lib.hid q2
          have Q3 := Lib.hid q3
          have HEL := Lib.hid hel
          have HZR := Lib.hid hzr
          have qu := u64w64 la hla
          have hki : (k : Int) < (n : Int) / 16 := by omega
          clear q1 q2 q3 hfin hel hzr hdl hd hla' hnn' hzz' r1 r2 r3
          go_wp2_with fail
          refine (rb_num w 8 _ p _ _ R1.out (by decide) (by decide)).mono ?_
          rintro e v1 ⟨rfl, g1, g2⟩
          rw [Q1.out] at g1 ⊢
          have Y1 := Lib.hid g1
          have O1 := Lib.hid (R2.out.upd g2 (fun g hg hm => by simp at hm; have := (R2.out.lt g hg).1; omega))
          have s1 := g2.size
          clear g1 g2
          go_wp2_with fail
          refine (rb_num w 4 _ p _ _ Y1.out (by decide) (by decide)).mono ?_
          rintro e v2 ⟨rfl, g1, g2⟩
          rw [Q2.out] at g1 ⊢
          have Y2 := Lib.hid (g1.upd0 ((Upd.refl [] _).alloc (.cells ([.int .u64 (la : Int), .int .i64 (nn : Int)] : List Value).toArray 100)))
          have O2 := Lib.hid ((O1.out.upd g2 (fun g hg hm => by simp at hm; have := (O1.out.lt g hg).1; omega)).upd0 ((Upd.refl [] _).alloc (.cells ([.int .u64 (la : Int), .int .i64 (nn : Int)] : List Value).toArray 100)))
          have hbx := Blk.new v2 [.int .u64 (la : Int), .int .i64 (nn : Int)] 100
          have HBX := Lib.hid hbx
          have s2 := g2.size
          clear g1 g2 hbx
          go_wp2_with fail
          refine (rb_num w 4 _ p _ _ Y2.out (by decide) (by decide)).mono ?_
          rintro e v3 ⟨rfl, g1, g2⟩
          rw [Q3.out] at g1 ⊢
          have Y3 := Lib.hid g1
          have O3 := Lib.hid (O2.out.upd g2 (fun g hg hm => by simp at hm; have := (O2.out.lt g hg).1; omega))
          have hb3 := HBX.out.upd g2 (by simp; omega)
          have c0 := hb3.cell 0 _ rfl
          have c1 := hb3.cell 1 _ rfl
          have s3 := g2.size
          rw [World.size_alloc] at s3
          clear g1 g2 hb3
          by_cases hz : zz = 0
          · subst hz
            have hzs : zsR (bs.drop 8) (k + 1) = true := by rw [zsR_succ, R3.out, HZR.out]; rfl
            have HZS := Lib.hid hzs
            clear hzs
            go_wp2_with (at_builtin; refine wpList_appR_cdb rfl (.tmp 55) (.tmp 57) rfl w1.heap.size _ (elsR (bs.drop 8) k) rfl ?p2 _ (la, (nn : Int)) rfl ?p4 ?p5 ?p6 ?_)
            case p2 => exact O3.out.upd0 ((Upd.refl [] _).alloc _)
            case p4 => exact rr_one _ _ _ _
            case p5 => rw [elsR_length]; have := HL.out; have := HLEN.out; unfold lim at *; omega
            case p6 => simp; omega
            intro A5 c5 w5 g5 g6
            rw [elsR_length] at g5 ⊢
            have hs5 := g6.size
            rw [World.size_alloc] at hs5
            have Y5 := Lib.hid ((Y3.out.upd0 ((Upd.refl [] _).alloc (.cells ([.int .u64 (la : Int), .int .i64 (nn : Int)] : List Value).toArray 100))).upd g6 (fun x hx => (O3.out.lt x (by simpa using hx)).1) (fun x hx => by have := (O3.out.lt x (by simpa using hx)).1; omega))
            have G5 := Lib.hid g5
            clear g5 g6 c0 c1
            go_wp2_with fail
            go_roundw
            case rel => exact ⟨k + 1, by omega, by go_num, Y5.out, by rw [HEL.out]; exact G5.out, HZS.out, by omega⟩
            case measure => simp [intOf]; omega
          · have hzt : ((zz : Int) != 0) = true := by rw [bne_iff_ne]; omega
            have hp : rgB bs = (11, []) := rgB_zero h8 HK.out (by rw [HM.out]; exact zsR_false hlt (by rw [HZR.out]; exact hz))
            have HP := Lib.hid hp
            clear hp hz c0 c1
            go_wp2_with fail
            go_ret2
            rw [HP.out]
            exact ⟨_, rfl, _, rfl, OR_cdb.nil _ _, Y3.out.u⟩
        · obtain rfl : k = n / 16 := by omega
          by_cases h32 : 32 < n / 16
          · have hp : rgB bs = (3, []) := rgB_long h8 HK.out (by rw [HM.out]; exact R3.out) (by rw [HM.out]; exact h32)
            have HP := Lib.hid hp
            clear hp r1 r2 r3
            go_wp2_with fail
            go_ret2
            rw [HP.out]
            exact ⟨_, rfl, _, rfl, OR_cdb.nil _ _, R1.out.u⟩
          · have hp : rgB bs = (0, elsR (bs.drop 8) (n / 16)) := by rw [← HM.out]; exact rgB_ok h8 HK.out (by rw [HM.out]; exact R3.out) (by rw [HM.out]; exact h32)
            have HP := Lib.hid hp
            clear hp r1 r2 r3
            go_wp2_with fail
            go_ret2
            rw [HP.out]
            exact ⟨_, rfl, _, rfl, own_base R2.out (fun g hg => by have := (R2.out.lt g hg).1; omega), R1.out.u⟩
    · have hp := rgB_head h8 hk
      have HP := Lib.hid hp
      have hko := fun h => hk (HHO.out.2 h)
      clear hk hp
      by_cases k1 : a + 2 = bs.length
      · have x1 : ((a : Int) != (bs.length : Int) - 2) = false := by rw [bne_eq_false_iff_eq]; omega
        by_cases k2 : n + 8 = bs.length
        · have x2 : ((n : Int) != (bs.length : Int) - 8) = false := by rw [bne_eq_false_iff_eq]; omega
          by_cases k3 : n % 16 = 0
          · have x3 : ((n : Int) % 16 != 0) = false := by rw [bne_eq_false_iff_eq]; omega
            have x4 : ((z : Int) != 0) = true := by rw [bne_iff_ne]; intro h; exact hko ⟨k1, k2, k3, by omega⟩
            clear hko k1 k2 k3
            go_wp2_with fail
            go_ret2
            rw [HP.out]
            exact ⟨_, rfl, _, rfl, OR_cdb.nil _ _, G4.out.u⟩
          · have x3 : ((n : Int) % 16 != 0) = true := by rw [bne_iff_ne]; omega
            clear hko k1 k2 k3
            go_wp2_with fail
            go_ret2
            rw [HP.out]
            exact ⟨_, rfl, _, rfl, OR_cdb.nil _ _, G4.out.u⟩
        · have x2 : ((n : Int) != (bs.length : Int) - 8) = true := by rw [bne_iff_ne]; omega
          clear hko k1 k2
          go_wp2_with fail
          go_ret2
          rw [HP.out]
          exact ⟨_, rfl, _, rfl, OR_cdb.nil _ _, G4.out.u⟩
      · have x1 : ((a : Int) != (bs.length : Int) - 2) = true := by rw [bne_iff_ne]; omega
        clear hko k1
        go_wp2_with fail
        go_ret2
        rw [HP.out]
        exact ⟨_, rfl, _, rfl, OR_cdb.nil _ _, G4.out.u⟩
end Go.Proofs.YtpkljdjdapgmjaaDoor
