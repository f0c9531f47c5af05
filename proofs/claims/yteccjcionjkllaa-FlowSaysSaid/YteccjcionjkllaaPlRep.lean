/- Of a value that is repeated: the plain laws. -/
import Derived.Test.YteccjcionjkllaaPl1
namespace Go.Ab
theorem mask32 {y : Int} (h0 : 0 ≤ y) (h1 : y ≤ 4294967295) : iand y 4294967295 = y := by
  unfold iand
  rw [show (4294967295 : Int).toNat = 2 ^ 32 - 1 by decide, Nat.and_two_pow_sub_one_eq_mod, Nat.mod_eq_of_lt (by omega)]
  omega
theorem rep_first {w : Int} {n : Nat} : List.take 0 (List.replicate n (0 : Int)) ++ List.take (min 1 n) [w] ++ List.drop (0 + min 1 n) (List.replicate n (0 : Int)) = List.replicate (min 1 n) w ++ List.replicate (n - min 1 n) 0 := by
  rcases Nat.eq_zero_or_pos n with h | h
  · subst h; simp
  · rw [Nat.min_eq_left h]
    simp
theorem rep_step {w : Int} {n k : Nat} {b : List Int} (hb : b = List.replicate k w ++ List.replicate (n - k) 0) (hk : k ≤ n) :
    List.take k b ++ List.take (min (List.length (List.take k b)) (n - k)) (List.take k b) ++ List.drop (k + min (List.length (List.take k b)) (n - k)) b = List.replicate (k + min (List.length (List.take k b)) (n - k)) w ++ List.replicate (n - (k + min (List.length (List.take k b)) (n - k))) 0 := by
  have h1 : List.take k b = List.replicate k w := by rw [hb, List.take_left' (by simp)]
  rw [h1, List.length_replicate, List.take_replicate, List.replicate_append_replicate]
  have h2 : List.drop (k + min k (n - k)) b = List.replicate (n - (k + min k (n - k))) 0 := by
    rw [hb, List.drop_append, List.length_replicate, List.drop_eq_nil_of_le (by simp), List.nil_append, List.drop_replicate]
    congr 1; omega
  rw [h2]
  congr 2
  omega
end Go.Ab
