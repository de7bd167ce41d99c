/- Plain laws of keys: there and back. -/
import Derived.Test.YtpkljdjdapgmjaaDoorKa
import Derived.Test.YtpkljdjdapgmjaaDoorFz
namespace Go.Proofs.YtpkljdjdapgmjaaDoor
set_option linter.unusedVariables false
set_option linter.unusedSimpArgs false

theorem keysP_ok {bs : List UInt8} {p q : Nat} (h : keysP bs = (p, q, 0)) : keysB p q = bs := by
  unfold keysP at h
  split at h
  · injection h with _ h; injection h with _ h; cases h
  · rename_i h24
    split at h
    · injection h with _ h; injection h with _ h; cases h
    · rename_i hz
      have hl : bs.length = 24 := by omega
      have h3 : nb (((bs.drop 8).drop 8).take 8) = 0 := by omega
      injection h with h1 h2
      injection h2 with h2 _
      have e1 : be 8 p = bs.take 8 := by rw [← h1]; exact be_nb' _ 8 (by simp; omega)
      have e2 : be 8 q = (bs.drop 8).take 8 := by rw [← h2]; exact be_nb' _ 8 (by simp; omega)
      have e3 : be 8 0 = ((bs.drop 8).drop 8).take 8 := by rw [← h3]; exact be_nb' _ 8 (by simp; omega)
      have e4 : ((bs.drop 8).drop 8).take 8 = (bs.drop 8).drop 8 := List.take_of_length_le (by simp; omega)
      simp only [keysB, List.flatMap_cons, List.flatMap_nil, List.append_nil]
      rw [e1, e2, e3, e4, List.take_append_drop, List.take_append_drop]
theorem keysP_back {key next : Nat} (hk : key < 18446744073709551616) (hn : next < 18446744073709551616) : keysP (keysB key next) = (key, next, 0) := by
  have hl := keysB_length key next
  have hb : keysB key next = be 8 key ++ (be 8 next ++ be 8 0) := by simp [keysB]
  have l8 : ∀ n, (be 8 n).length = 8 := fun n => be_length 8 n
  have d1 : (keysB key next).drop 8 = be 8 next ++ be 8 0 := by rw [hb]; exact List.drop_left' (l8 _)
  have t1 : (keysB key next).take 8 = be 8 key := by rw [hb]; exact List.take_left' (l8 _)
  have d2 : (be 8 next ++ be 8 0).drop 8 = be 8 0 := List.drop_left' (l8 _)
  have t2 : (be 8 next ++ be 8 0).take 8 = be 8 next := List.take_left' (l8 _)
  have t3 : (be 8 0).take 8 = be 8 0 := List.take_of_length_le (by rw [l8]; omega)
  have h8 : (256 : Nat) ^ 8 = 18446744073709551616 := by decide
  unfold keysP
  rw [if_neg (by omega), d1, d2, t1, t2, t3, nb_be_lt 8 0 (by decide), nb_be_lt 8 key (by omega), nb_be_lt 8 next (by omega), if_neg (by simp; omega)]
end Go.Proofs.YtpkljdjdapgmjaaDoor
