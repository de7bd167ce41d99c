/- The walk of CdbRanges. Printed by a program (wip/printlr.py). -/
import Derived.Test.YtpkljdjdapgmjaaDoorRt
import Derived.Test.YtpkljdjdapgmjaaDoorRu
import Derived.Test.YtpkljdjdapgmjaaDoorLa
import Derived.Test.YtpkljdjdapgmjaaDoorCf
namespace Go.Proofs.YtpkljdjdapgmjaaDoor
open Go.RowKit
set_option linter.unusedVariables false
set_option linter.unusedSimpArgs false

set_option maxRecDepth 20000 in
set_option maxHeartbeats 4000000 in
theorem rangesLaw_c (v u : Value) (l : List (Nat × Int)) (bs : List UInt8) (w : World) (hv : RR w v l) (hok : OkR l) (hll : l.length * 16 ≤ 140737488355328) (hb : RB w u bs) (hl : bs.length + 1 ≤ lim) (hT : Tab w) :
    Calls Tryd.prog 7 #[v, u] w fun e w' => e = .returned (.bool true) ∧ Upd [] w w' := by
  have HT := Lib.hid hT
  have HB := Lib.hid hb
  have HL := Lib.hid hl
  have HV := Lib.hid hv
  have HOK := Lib.hid hok
  have U0 := Lib.hid (Upd.refl [] w)
  obtain ⟨Ep, hEp⟩ : ∃ x, x = (prB l).1 := ⟨_, rfl⟩
  obtain ⟨xb, hxb⟩ : ∃ x, x = (prB l).2 := ⟨_, rfl⟩
  obtain ⟨Eg, hEg⟩ : ∃ x, x = (rgB bs).1 := ⟨_, rfl⟩
  obtain ⟨es, hes⟩ : ∃ x, x = (rgB bs).2 := ⟨_, rfl⟩
  have hxl : xb.length ≤ 520 := by rw [hxb]; exact prB_len l
  have hel : es.length ≤ 32 := by rw [hes]; exact rgB_len bs
  have heo : OkR es := by rw [hes]; exact rgB_okR bs
  have HEP := Lib.hid hEp
  have HXB := Lib.hid hxb
  have HEG := Lib.hid hEg
  have HES := Lib.hid hes
  have HXL := Lib.hid hxl
  have HEL := Lib.hid hel
  have HEO := Lib.hid heo
  have HLL := Lib.hid hll
  clear hT hb hl hv hok hEp hxb hEg hes hxl hel heo hll
  go_enter Tryd.func7, Tryd.ntmps7
  go_wp2_with fail
  refine (lent_c _ bs _ (HB.out.upd U0.out) HL.out).mono ?_
  rintro e w1 ⟨o, rfl, hO, hU⟩
  have U1 := Lib.hid (U0.out.trans hU)
  have O1 := Lib.hid hO
  clear hU hO U0 
  go_wp2_with fail
  refine (given2_c _ l _ (HV.out.upd U1.out) HLL.out).mono ?_
  rintro e w2 ⟨g2, rfl, hG, hU⟩
  have U2 := Lib.hid (U1.out.trans hU)
  have O2 := Lib.hid (O1.out.upd0 hU)
  have G2 := Lib.hid hG
  clear hU hG U1 O1
  go_wp2_with fail
  refine (putRanges_c _ l _ G2.out.rr HOK.out HLL.out).mono ?_
  rintro e w3 ⟨r, rfl, x, rfl, hX, hU⟩
  rw [← HEP.out]
  rw [← HXB.out] at hX
  have U3 := Lib.hid (U2.out.trans hU)
  have O3 := Lib.hid (O2.out.upd0 hU)
  have G3 := Lib.hid (G2.out.upd0 hU)
  have X3 := Lib.hid hX
  clear hU hX U2 O2 G2
  go_wp2_with fail
  refine (rputRanges_c _ l _ (HV.out.upd U3.out) HOK.out HLL.out).mono ?_
  rintro e w4 ⟨r, rfl, y, rfl, hY, hU⟩
  rw [← HEP.out]
  rw [← HXB.out] at hY
  have U4 := Lib.hid (U3.out.trans hU)
  have O4 := Lib.hid (O3.out.upd0 hU)
  have X4 := Lib.hid (X3.out.upd0 hU)
  have Y4 := Lib.hid hY
  clear hU hY U3 O3 X3
  go_wp2_with fail
  refine (ranges_c _ bs _ O4.out.rb (by have := HL.out; unfold lim at *; omega)).mono ?_
  rintro e w5 ⟨r, rfl, p, rfl, hP, hU⟩
  rw [← HEG.out]
  rw [← HES.out] at hP
  have U5 := Lib.hid (U4.out.trans hU)
  have O5 := Lib.hid (O4.out.upd0 hU)
  have X5 := Lib.hid (X4.out.upd0 hU)
  have Y5 := Lib.hid (Y4.out.upd0 hU)
  have P5 := Lib.hid hP
  clear hU hP U4 O4 X4 Y4
  go_wp2_with fail
  refine (rranges_c _ bs _ (HB.out.upd U5.out) (by have := HL.out; unfold lim at *; omega)).mono ?_
  rintro e w6 ⟨r, rfl, q, rfl, hQ, hU⟩
  rw [← HEG.out]
  rw [← HES.out] at hQ
  have U6 := Lib.hid (U5.out.trans hU)
  have O6 := Lib.hid (O5.out.upd0 hU)
  have X6 := Lib.hid (X5.out.upd0 hU)
  have Y6 := Lib.hid (Y5.out.upd0 hU)
  have P6 := Lib.hid (P5.out.upd0 hU)
  have Q6 := Lib.hid hQ
  clear hU hQ U5 O5 X5 Y5 P5
  have kx := conv_B X6.out.rb
  have ky := conv_B Y6.out.rb
  go_wp2_with fail
  refine (taken2_c _ es _ P6.out.rr (by have := HEL.out; omega)).mono ?_
  rintro e w7 ⟨t, rfl, hTk, hU⟩
  have U7 := Lib.hid (U6.out.trans hU)
  have O7 := Lib.hid (O6.out.upd0 hU)
  have X7 := Lib.hid (X6.out.upd0 hU)
  have Y7 := Lib.hid (Y6.out.upd0 hU)
  have P7 := Lib.hid (P6.out.upd0 hU)
  have Q7 := Lib.hid (Q6.out.upd0 hU)
  have K7 := Lib.hid hTk
  clear hU hTk U6 O6 X6 Y6 P6 Q6
  clear kx ky
  go_wp2_with fail
  refine (same_c _ _ es _ K7.out.rr Q7.out.rr).mono ?_
  rintro e w8 ⟨rfl, hU⟩
  have U8 := Lib.hid (U7.out.trans hU)
  have O8 := Lib.hid (O7.out.upd0 hU)
  have X8 := Lib.hid (X7.out.upd0 hU)
  have Y8 := Lib.hid (Y7.out.upd0 hU)
  have P8 := Lib.hid (P7.out.upd0 hU)
  have Q8 := Lib.hid (Q7.out.upd0 hU)
  have K8 := Lib.hid (K7.out.upd0 hU)
  clear hU  U7 O7 X7 Y7 P7 Q7 K7
  go_wp2_with fail
  refine (kept_c _ _ bs _ _ O8.out (HB.out.upd U8.out)).mono ?_
  rintro e w9 ⟨rfl, rfl⟩
  by_cases hg0 : Eg = 0
  · subst hg0
    have hbk2 : prB es = (0, bs) := by rw [HES.out]; exact rgB_back HEG.out.symm
    have HBK2 := Lib.hid hbk2
    clear hbk2
    go_wp2_with fail
    refine (putRanges_c _ es _ P8.out.rr HEO.out (by have := HEL.out; omega)).mono ?_
    rintro e w9 ⟨r, rfl, z, rfl, hZ2, hU⟩
    rw [HBK2.out] at hZ2 ⊢
    dsimp only at hZ2 ⊢
    have U9 := Lib.hid (U8.out.trans hU)
    have O9 := Lib.hid (O8.out.upd0 hU)
    have X9 := Lib.hid (X8.out.upd0 hU)
    have P9 := Lib.hid (P8.out.upd0 hU)
    have S9 := Lib.hid hZ2
    clear hU hZ2 U8 O8 X8 P8
    have kz := conv_B S9.out.rb
    have kb := conv_B (HB.out.upd U9.out)
    by_cases hp0 : Ep = 0
    · subst hp0
      have hbk : rgB xb = (0, l) := by rw [HXB.out]; exact prB_back HOK.out HEP.out.symm
      have HBK := Lib.hid hbk
      clear hbk
      go_wp2_with fail
      refine (ranges_c _ xb _ X9.out.rb (by have := HXL.out; unfold lim; omega)).mono ?_
      rintro e w10 ⟨r, rfl, zz, rfl, hZ, hU⟩
      rw [HBK.out] at hZ ⊢
      dsimp only at hZ ⊢
      have U10 := Lib.hid (U9.out.trans hU)
      have O10 := Lib.hid (O9.out.upd0 hU)
      have X10 := Lib.hid (X9.out.upd0 hU)
      have P10 := Lib.hid (P9.out.upd0 hU)
      have Z10 := Lib.hid hZ
      clear hU hZ U9 O9 X9 P9
      go_wp2_with fail
      refine (taken2_c _ l _ Z10.out.rr HLL.out).mono ?_
      rintro e w11 ⟨tt, rfl, hTT, hU⟩
      have U11 := Lib.hid (U10.out.trans hU)
      have O11 := Lib.hid (O10.out.upd0 hU)
      have X11 := Lib.hid (X10.out.upd0 hU)
      have P11 := Lib.hid (P10.out.upd0 hU)
      have Z11 := Lib.hid (Z10.out.upd0 hU)
      have J11 := Lib.hid hTT
      clear hU hTT U10 O10 X10 P10 Z10
      go_wp2_with fail
      refine (same_c _ _ l _ J11.out.rr (HV.out.upd U11.out)).mono ?_
      rintro e w12 ⟨rfl, hU⟩
      have U12 := Lib.hid (U11.out.trans hU)
      have O12 := Lib.hid (O11.out.upd0 hU)
      have X12 := Lib.hid (X11.out.upd0 hU)
      have P12 := Lib.hid (P11.out.upd0 hU)
      have Z12 := Lib.hid (Z11.out.upd0 hU)
      have J12 := Lib.hid (J11.out.upd0 hU)
      clear hU  U11 O11 X11 P11 Z11 J11
      go_wp2_with fail
      refine (known_c _ (HT.out.upd0 U12.out)).mono ?_
      rintro e w13 ⟨rfl, hU⟩
      have U13 := Lib.hid (U12.out.trans hU)
      have O13 := Lib.hid (O12.out.upd0 hU)
      have X13 := Lib.hid (X12.out.upd0 hU)
      have P13 := Lib.hid (P12.out.upd0 hU)
      have Z13 := Lib.hid (Z12.out.upd0 hU)
      have J13 := Lib.hid (J12.out.upd0 hU)
      clear hU  U12 O12 X12 P12 Z12 J12
      go_wp2_with fail
      go_ret
      exact ⟨rfl, U13.out⟩
    · have hpt : (Ep != 0) = true := by rw [bne_iff_ne]; exact hp0
      clear hp0
      go_wp2_with fail
      refine (known_c _ (HT.out.upd0 U9.out)).mono ?_
      rintro e w10 ⟨rfl, hU⟩
      have U10 := Lib.hid (U9.out.trans hU)
      have O10 := Lib.hid (O9.out.upd0 hU)
      have X10 := Lib.hid (X9.out.upd0 hU)
      have P10 := Lib.hid (P9.out.upd0 hU)
      clear hU  U9 O9 X9 P9
      go_wp2_with fail
      go_ret
      exact ⟨rfl, U10.out⟩
  · have hgt : (Eg == 0) = false := by rw [beq_eq_false_iff_ne]; exact hg0
    clear hg0
    by_cases hp0 : Ep = 0
    · subst hp0
      have hbk : rgB xb = (0, l) := by rw [HXB.out]; exact prB_back HOK.out HEP.out.symm
      have HBK := Lib.hid hbk
      clear hbk
      go_wp2_with fail
      refine (ranges_c _ xb _ X8.out.rb (by have := HXL.out; unfold lim; omega)).mono ?_
      rintro e w9 ⟨r, rfl, zz, rfl, hZ, hU⟩
      rw [HBK.out] at hZ ⊢
      dsimp only at hZ ⊢
      have U9 := Lib.hid (U8.out.trans hU)
      have O9 := Lib.hid (O8.out.upd0 hU)
      have X9 := Lib.hid (X8.out.upd0 hU)
      have P9 := Lib.hid (P8.out.upd0 hU)
      have Z9 := Lib.hid hZ
      clear hU hZ U8 O8 X8 P8
      go_wp2_with fail
      refine (taken2_c _ l _ Z9.out.rr HLL.out).mono ?_
      rintro e w10 ⟨tt, rfl, hTT, hU⟩
      have U10 := Lib.hid (U9.out.trans hU)
      have O10 := Lib.hid (O9.out.upd0 hU)
      have X10 := Lib.hid (X9.out.upd0 hU)
      have P10 := Lib.hid (P9.out.upd0 hU)
      have Z10 := Lib.hid (Z9.out.upd0 hU)
      have J10 := Lib.hid hTT
      clear hU hTT U9 O9 X9 P9 Z9
      go_wp2_with fail
      refine (same_c _ _ l _ J10.out.rr (HV.out.upd U10.out)).mono ?_
      rintro e w11 ⟨rfl, hU⟩
      have U11 := Lib.hid (U10.out.trans hU)
      have O11 := Lib.hid (O10.out.upd0 hU)
      have X11 := Lib.hid (X10.out.upd0 hU)
      have P11 := Lib.hid (P10.out.upd0 hU)
      have Z11 := Lib.hid (Z10.out.upd0 hU)
      have J11 := Lib.hid (J10.out.upd0 hU)
      clear hU  U10 O10 X10 P10 Z10 J10
      go_wp2_with fail
      refine (known_c _ (HT.out.upd0 U11.out)).mono ?_
      rintro e w12 ⟨rfl, hU⟩
      have U12 := Lib.hid (U11.out.trans hU)
      have O12 := Lib.hid (O11.out.upd0 hU)
      have X12 := Lib.hid (X11.out.upd0 hU)
      have P12 := Lib.hid (P11.out.upd0 hU)
      have Z12 := Lib.hid (Z11.out.upd0 hU)
      have J12 := Lib.hid (J11.out.upd0 hU)
      clear hU  U11 O11 X11 P11 Z11 J11
      go_wp2_with fail
      go_ret
      exact ⟨rfl, U12.out⟩
    · have hpt : (Ep != 0) = true := by rw [bne_iff_ne]; exact hp0
      clear hp0
      go_wp2_with fail
      refine (known_c _ (HT.out.upd0 U8.out)).mono ?_
      rintro e w9 ⟨rfl, hU⟩
      have U9 := Lib.hid (U8.out.trans hU)
      have O9 := Lib.hid (O8.out.upd0 hU)
      have X9 := Lib.hid (X8.out.upd0 hU)
      have P9 := Lib.hid (P8.out.upd0 hU)
      clear hU  U8 O8 X8 P8
      go_wp2_with fail
      go_ret
      exact ⟨rfl, U9.out⟩
end Go.Proofs.YtpkljdjdapgmjaaDoor
