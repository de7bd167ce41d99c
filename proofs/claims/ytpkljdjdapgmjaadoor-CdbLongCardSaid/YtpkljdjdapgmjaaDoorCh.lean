/- Plain laws: a command of blocks, there and back. -/
import Derived.Test.YtpkljdjdapgmjaaDoorCg
namespace Go.Proofs.YtpkljdjdapgmjaaDoor
open Go.RowKit
set_option linter.unusedVariables false

theorem foldl_be (s n : Nat) : ∀ a, (be s n).foldl (fun a c => a * 256 + c.toNat) a = a * 256 ^ s + n % 256 ^ s := by
  induction s with
  | zero => intro a; simp [be, Nat.mod_one]
  | succ s ih =>
    intro a
    rw [be, List.foldl_cons, ih, bb_toNat]
    have e : 2 ^ (8 * s) = 256 ^ s := by rw [Nat.pow_mul]
    rw [e, Nat.pow_succ, Nat.mod_mul, Nat.add_mul, Nat.mul_comm (256 ^ s) 256, ← Nat.mul_assoc, Nat.mul_comm (256 ^ s) (n / 256 ^ s % 256)]
    omega
theorem nb_be (s n : Nat) : nb (be s n) = n % 256 ^ s := by have := foldl_be s n 0; simpa [nb] using this
/-- A command of blocks. -/
def blk (op : Int) (lba n : Nat) : Cmd := ⟨op, 0, 0, false, 0, lba, (n : Int)⟩
theorem blk_ok {op : Int} {lba n : Nat} (ho : op = 40 ∨ op = 42 ∨ op = 136 ∨ op = 138) (hl : lba < 4294967296) (hn : n < 65536) : (blk op lba n).Ok :=
  ⟨by show _ ≤ op ∧ op ≤ _; omega, by simp [blk], by simp [blk], by simp [blk], by show lba < _; omega, by show _ ≤ (n : Int) ∧ (n : Int) ≤ _; omega⟩
theorem toU_nat {n : Nat} (h : n < 65536) : toU (n : Int) = n := by unfold toU; omega
def blkB (op : Int) (s q r lba n : Nat) : List UInt8 := putB (putB (startB op) 2 s lba) q r n
theorem fits4 {n : Nat} (h : n < 4294967296) : fitsB n 4 = true := by unfold fitsB; simp; omega
theorem fits8 (n : Nat) : fitsB n 8 = true := rfl
theorem fits2 {n : Nat} (h : n < 65536) : fitsB n 2 = true := by unfold fitsB; simp; omega
theorem fits4' {n : Nat} (h : n < 65536) : fitsB n 4 = true := fits4 (by omega)
theorem runB_blk (s q r : Nat) (hs : s ≠ 0) (hr : r ≠ 0) (op : Int) {lba n : Nat} (h1 : fitsB lba s = true) (h2 : fitsB n r = true) (hn : n < 65536) :
    runB [(0, 0, 0), (0, 0, 0), (0, 0, 0), (0, 0, 0), (2, s, 0), (q, r, 0)] (blk op lba n).vals 6 (startB op, false) = some (blkB op s q r lba n, false) := by
  simp [runB, stepB, Cmd.vals, blk, hs, hr, h1, h2, toU_nat hn, blkB]
  rfl
theorem blk_build40 {lba n : Nat} (hl : lba < 4294967296) (hn : n < 65536) : buildB (blk 40 lba n) = (0, blkB 40 4 7 2 lba n) :=
  buildB_ok (c := blk 40 lba n) (l := [(0, 0, 0), (0, 0, 0), (0, 0, 0), (0, 0, 0), (2, 4, 0), (7, 2, 0)]) rfl (runB_blk 4 7 2 (by decide) (by decide) 40 (fits4 hl) (fits2 hn) hn)
theorem blk_read40 {lba n : Nat} (hl : lba < 4294967296) (hn : n < 65536) : readB [(0, 0, 0), (0, 0, 0), (0, 0, 0), (0, 0, 0), (2, 4, 0), (7, 2, 0)] (blkB 40 4 7 2 lba n) 6 = [0, 0, 0, 0, lba, n] := by
  have h1 : fieldB (2, 4, 0) (blkB 40 4 7 2 lba n) = lba := by
    have e : ((blkB 40 4 7 2 lba n).drop 2).take 4 = be 4 lba := rfl
    unfold fieldB
    dsimp only
    rw [e, nb_be, if_neg (by decide)]
    exact Nat.mod_eq_of_lt (by simp only [Nat.reducePow]; omega)
  have h2 : fieldB (7, 2, 0) (blkB 40 4 7 2 lba n) = n := by
    have e : ((blkB 40 4 7 2 lba n).drop 7).take 2 = be 2 n := rfl
    unfold fieldB
    dsimp only
    rw [e, nb_be, if_neg (by decide)]
    exact Nat.mod_eq_of_lt (by simp only [Nat.reducePow]; omega)
  simp [readB, h1, h2]
theorem blk_parse40 {lba n : Nat} (hl : lba < 4294967296) (hn : n < 65536) : parseB (blkB 40 4 7 2 lba n) = (0, blk 40 lba n) := by
  have hb : (blkB 40 4 7 2 lba n).getD 0 0 = 40 := rfl
  have hc : cmdOf 40 [0, 0, 0, 0, lba, n] = blk 40 lba n := by
    unfold cmdOf blk
    simp only [List.getD_cons_zero, List.getD_cons_succ]
    have e : wrap64 (n : Int) = (n : Int) := by unfold wrap64; omega
    have e0 : wrap64 ((0 : Nat) : Int) = 0 := by unfold wrap64; omega
    rw [e, e0]; rfl
  have hp : placesOf ((((40 : UInt8)).toNat : Nat) : Int) = some [(0, 0, 0), (0, 0, 0), (0, 0, 0), (0, 0, 0), (2, 4, 0), (7, 2, 0)] := rfl
  have ho : (((40 : UInt8).toNat : Nat) : Int) = 40 := rfl
  unfold parseB
  rw [if_pos (show (blkB 40 4 7 2 lba n).length = 16 from rfl), hb, hp]
  dsimp only
  rw [blk_read40 hl hn, ho, hc, blk_build40 hl hn, if_pos ⟨rfl, rfl⟩]
theorem blk_build42 {lba n : Nat} (hl : lba < 4294967296) (hn : n < 65536) : buildB (blk 42 lba n) = (0, blkB 42 4 7 2 lba n) :=
  buildB_ok (c := blk 42 lba n) (l := [(0, 0, 0), (0, 0, 0), (0, 0, 0), (0, 0, 0), (2, 4, 0), (7, 2, 0)]) rfl (runB_blk 4 7 2 (by decide) (by decide) 42 (fits4 hl) (fits2 hn) hn)
theorem blk_read42 {lba n : Nat} (hl : lba < 4294967296) (hn : n < 65536) : readB [(0, 0, 0), (0, 0, 0), (0, 0, 0), (0, 0, 0), (2, 4, 0), (7, 2, 0)] (blkB 42 4 7 2 lba n) 6 = [0, 0, 0, 0, lba, n] := by
  have h1 : fieldB (2, 4, 0) (blkB 42 4 7 2 lba n) = lba := by
    have e : ((blkB 42 4 7 2 lba n).drop 2).take 4 = be 4 lba := rfl
    unfold fieldB
    dsimp only
    rw [e, nb_be, if_neg (by decide)]
    exact Nat.mod_eq_of_lt (by simp only [Nat.reducePow]; omega)
  have h2 : fieldB (7, 2, 0) (blkB 42 4 7 2 lba n) = n := by
    have e : ((blkB 42 4 7 2 lba n).drop 7).take 2 = be 2 n := rfl
    unfold fieldB
    dsimp only
    rw [e, nb_be, if_neg (by decide)]
    exact Nat.mod_eq_of_lt (by simp only [Nat.reducePow]; omega)
  simp [readB, h1, h2]
theorem blk_parse42 {lba n : Nat} (hl : lba < 4294967296) (hn : n < 65536) : parseB (blkB 42 4 7 2 lba n) = (0, blk 42 lba n) := by
  have hb : (blkB 42 4 7 2 lba n).getD 0 0 = 42 := rfl
  have hc : cmdOf 42 [0, 0, 0, 0, lba, n] = blk 42 lba n := by
    unfold cmdOf blk
    simp only [List.getD_cons_zero, List.getD_cons_succ]
    have e : wrap64 (n : Int) = (n : Int) := by unfold wrap64; omega
    have e0 : wrap64 ((0 : Nat) : Int) = 0 := by unfold wrap64; omega
    rw [e, e0]; rfl
  have hp : placesOf ((((42 : UInt8)).toNat : Nat) : Int) = some [(0, 0, 0), (0, 0, 0), (0, 0, 0), (0, 0, 0), (2, 4, 0), (7, 2, 0)] := rfl
  have ho : (((42 : UInt8).toNat : Nat) : Int) = 42 := rfl
  unfold parseB
  rw [if_pos (show (blkB 42 4 7 2 lba n).length = 16 from rfl), hb, hp]
  dsimp only
  rw [blk_read42 hl hn, ho, hc, blk_build42 hl hn, if_pos ⟨rfl, rfl⟩]
theorem blk_build136 {lba n : Nat} (hl : lba < 4294967296) (hn : n < 65536) : buildB (blk 136 lba n) = (0, blkB 136 8 10 4 lba n) :=
  buildB_ok (c := blk 136 lba n) (l := [(0, 0, 0), (0, 0, 0), (0, 0, 0), (0, 0, 0), (2, 8, 0), (10, 4, 0)]) rfl (runB_blk 8 10 4 (by decide) (by decide) 136 (fits8 lba) (fits4' hn) hn)
theorem blk_read136 {lba n : Nat} (hl : lba < 4294967296) (hn : n < 65536) : readB [(0, 0, 0), (0, 0, 0), (0, 0, 0), (0, 0, 0), (2, 8, 0), (10, 4, 0)] (blkB 136 8 10 4 lba n) 6 = [0, 0, 0, 0, lba, n] := by
  have h1 : fieldB (2, 8, 0) (blkB 136 8 10 4 lba n) = lba := by
    have e : ((blkB 136 8 10 4 lba n).drop 2).take 8 = be 8 lba := rfl
    unfold fieldB
    dsimp only
    rw [e, nb_be, if_neg (by decide)]
    exact Nat.mod_eq_of_lt (by simp only [Nat.reducePow]; omega)
  have h2 : fieldB (10, 4, 0) (blkB 136 8 10 4 lba n) = n := by
    have e : ((blkB 136 8 10 4 lba n).drop 10).take 4 = be 4 n := rfl
    unfold fieldB
    dsimp only
    rw [e, nb_be, if_neg (by decide)]
    exact Nat.mod_eq_of_lt (by simp only [Nat.reducePow]; omega)
  simp [readB, h1, h2]
theorem blk_parse136 {lba n : Nat} (hl : lba < 4294967296) (hn : n < 65536) : parseB (blkB 136 8 10 4 lba n) = (0, blk 136 lba n) := by
  have hb : (blkB 136 8 10 4 lba n).getD 0 0 = 136 := rfl
  have hc : cmdOf 136 [0, 0, 0, 0, lba, n] = blk 136 lba n := by
    unfold cmdOf blk
    simp only [List.getD_cons_zero, List.getD_cons_succ]
    have e : wrap64 (n : Int) = (n : Int) := by unfold wrap64; omega
    have e0 : wrap64 ((0 : Nat) : Int) = 0 := by unfold wrap64; omega
    rw [e, e0]; rfl
  have hp : placesOf ((((136 : UInt8)).toNat : Nat) : Int) = some [(0, 0, 0), (0, 0, 0), (0, 0, 0), (0, 0, 0), (2, 8, 0), (10, 4, 0)] := rfl
  have ho : (((136 : UInt8).toNat : Nat) : Int) = 136 := rfl
  unfold parseB
  rw [if_pos (show (blkB 136 8 10 4 lba n).length = 16 from rfl), hb, hp]
  dsimp only
  rw [blk_read136 hl hn, ho, hc, blk_build136 hl hn, if_pos ⟨rfl, rfl⟩]
theorem blk_build138 {lba n : Nat} (hl : lba < 4294967296) (hn : n < 65536) : buildB (blk 138 lba n) = (0, blkB 138 8 10 4 lba n) :=
  buildB_ok (c := blk 138 lba n) (l := [(0, 0, 0), (0, 0, 0), (0, 0, 0), (0, 0, 0), (2, 8, 0), (10, 4, 0)]) rfl (runB_blk 8 10 4 (by decide) (by decide) 138 (fits8 lba) (fits4' hn) hn)
theorem blk_read138 {lba n : Nat} (hl : lba < 4294967296) (hn : n < 65536) : readB [(0, 0, 0), (0, 0, 0), (0, 0, 0), (0, 0, 0), (2, 8, 0), (10, 4, 0)] (blkB 138 8 10 4 lba n) 6 = [0, 0, 0, 0, lba, n] := by
  have h1 : fieldB (2, 8, 0) (blkB 138 8 10 4 lba n) = lba := by
    have e : ((blkB 138 8 10 4 lba n).drop 2).take 8 = be 8 lba := rfl
    unfold fieldB
    dsimp only
    rw [e, nb_be, if_neg (by decide)]
    exact Nat.mod_eq_of_lt (by simp only [Nat.reducePow]; omega)
  have h2 : fieldB (10, 4, 0) (blkB 138 8 10 4 lba n) = n := by
    have e : ((blkB 138 8 10 4 lba n).drop 10).take 4 = be 4 n := rfl
    unfold fieldB
    dsimp only
    rw [e, nb_be, if_neg (by decide)]
    exact Nat.mod_eq_of_lt (by simp only [Nat.reducePow]; omega)
  simp [readB, h1, h2]
theorem blk_parse138 {lba n : Nat} (hl : lba < 4294967296) (hn : n < 65536) : parseB (blkB 138 8 10 4 lba n) = (0, blk 138 lba n) := by
  have hb : (blkB 138 8 10 4 lba n).getD 0 0 = 138 := rfl
  have hc : cmdOf 138 [0, 0, 0, 0, lba, n] = blk 138 lba n := by
    unfold cmdOf blk
    simp only [List.getD_cons_zero, List.getD_cons_succ]
    have e : wrap64 (n : Int) = (n : Int) := by unfold wrap64; omega
    have e0 : wrap64 ((0 : Nat) : Int) = 0 := by unfold wrap64; omega
    rw [e, e0]; rfl
  have hp : placesOf ((((138 : UInt8)).toNat : Nat) : Int) = some [(0, 0, 0), (0, 0, 0), (0, 0, 0), (0, 0, 0), (2, 8, 0), (10, 4, 0)] := rfl
  have ho : (((138 : UInt8).toNat : Nat) : Int) = 138 := rfl
  unfold parseB
  rw [if_pos (show (blkB 138 8 10 4 lba n).length = 16 from rfl), hb, hp]
  dsimp only
  rw [blk_read138 hl hn, ho, hc, blk_build138 hl hn, if_pos ⟨rfl, rfl⟩]
theorem bytes64 {n : Nat} (hn : n < 65536) : bytesB (n : Int) 64 = 64 * (n : Int) := by unfold bytesB; omega
end Go.Proofs.YtpkljdjdapgmjaaDoor
