/- The reference's Up. -/
import Derived.Test.YtfdgclnjpbkggaaDoorMkZg
import Derived.Test.YtfdgclnjpbkggaaDoorMkZh
namespace Go.Proofs.YtfdgclnjpbkggaaDoor
open Go.RowKit Go.Maps
namespace Mk

theorem refUp_any : ∀ (n : Nat) {w : World} {O : Nat → Prop} {v : Value} {p : List H} {h : H} {i : Nat}, h.length = 32 → 1 ≤ n → n ≤ 1099511627776 → i < n → HS w O v p → Calls Tryd.prog 37 #[.agg (h.map (Value.int .u8)).toArray, .int .i64 (i : Nat), .int .i64 (n : Nat), v] w (UpPost w (upP h i n p)) := by
  intro n
  induction n using Nat.strongRecOn with
  | ind n ih =>
    intro w O v p h i hlen h1 hn hi hs
    by_cases hn1 : n = 1
    · subst hn1; exact refUp_one hlen hs
    · by_cases hp : p = []
      · subst hp; exact refUp_nil (by omega) hs
      · obtain ⟨q, x, rfl⟩ := split_last hp
        by_cases hik : i < half n
        · exact refUp_left (fun k hk => ih k hk) hlen (by omega) hn hi hs hik
        · exact refUp_right (fun k hk => ih k hk) hlen (by omega) hn hi hs hik

end Mk
end Go.Proofs.YtfdgclnjpbkggaaDoor
