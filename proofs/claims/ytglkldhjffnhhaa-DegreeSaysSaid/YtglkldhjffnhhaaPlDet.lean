/- Of determinants: the plain laws. -/
import Derived.Test.YtglkldhjffnhhaaPlA
namespace Go.Ab
/-! ### Sums -/
def sumTo : Nat → (Nat → Int) → Int
  | 0, _ => 0
  | n + 1, f => sumTo n f + f n
theorem sum_congr {f g : Nat → Int} : ∀ {n : Nat}, (∀ j, j < n → f j = g j) → sumTo n f = sumTo n g
  | 0, _ => rfl
  | n + 1, h => by rw [sumTo, sumTo, sum_congr (fun j hj => h j (by omega)), h n (by omega)]
theorem sum_zero {f : Nat → Int} : ∀ {n : Nat}, (∀ j, j < n → f j = 0) → sumTo n f = 0
  | 0, _ => rfl
  | n + 1, h => by rw [sumTo, sum_zero (fun j hj => h j (by omega)), h n (by omega)]; rfl
theorem sum_add (f g : Nat → Int) : ∀ n : Nat, sumTo n (fun j => f j + g j) = sumTo n f + sumTo n g
  | 0 => rfl
  | n + 1 => by rw [sumTo, sumTo, sumTo, sum_add]; omega
theorem sum_mul (a : Int) (f : Nat → Int) : ∀ n : Nat, sumTo n (fun j => a * f j) = a * sumTo n f
  | 0 => by simp [sumTo]
  | n + 1 => by rw [sumTo, sumTo, sum_mul, Int.mul_add]
theorem sum_one {f : Nat → Int} {c : Nat} : ∀ {n : Nat}, c < n → (∀ j, j < n → j ≠ c → f j = 0) → sumTo n f = f c
  | 0, h, _ => by omega
  | n + 1, h, hz => by
    rw [sumTo]
    by_cases e : c = n
    · subst e; rw [sum_zero fun j hj => hz j (by omega) (by omega)]; omega
    · rw [sum_one (c := c) (by omega) fun j hj hc => hz j (by omega) hc, hz n (by omega) (fun q => e q.symm)]; omega
/-! ### Determinants -/
/-! ### Rows -/
end Go.Ab
