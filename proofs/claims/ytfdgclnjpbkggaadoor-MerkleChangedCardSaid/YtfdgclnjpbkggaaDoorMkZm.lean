/- The reference's both (printed by gen_refboth.py). -/
import Derived.Test.YtfdgclnjpbkggaaDoorMkZk
import Derived.Test.YtfdgclnjpbkggaaDoorMkZl
namespace Go.Proofs.YtfdgclnjpbkggaaDoor
open Go.RowKit Go.Maps
namespace Mk

theorem refBoth_any : ∀ (n : Nat) {w : World} {O : Nat → Prop} {v : Value} {p : List H} {m : Nat} {whole : Bool} {a : H}, a.length = 32 → 1 ≤ m → m ≤ n → n ≤ 1099511627776 → HS w O v p → Calls Tryd.prog 39 #[.int .i64 (m : Nat), .int .i64 (n : Nat), .bool whole, v, .agg (a.map (Value.int .u8)).toArray] w (U2Post w (upsP m n whole p a)) := by
  intro n
  induction n using Nat.strongRecOn with
  | ind n ih =>
    intro w O v p m whole a hlen h1 hmn hn hs
    by_cases hne : m = n
    · subst hne
      cases whole with
      | true => exact refBoth_all hlen hs
      | false =>
        by_cases hp : p.length = 1
        · obtain ⟨x, rfl⟩ := List.length_eq_one_iff.1 hp
          exact refBoth_is1 hs
        · exact refBoth_not1 hs hp
    · by_cases hp : p = []
      · subst hp; exact refBoth_nil hne (by omega) hs
      · obtain ⟨q, x, rfl⟩ := split_last hp
        by_cases hik : m ≤ half n
        · exact refBoth_left (fun k hk => ih k hk) hlen hne h1 hmn hn hs hik
        · exact refBoth_right (fun k hk => ih k hk) hlen hne h1 hmn hn hs hik

end Mk
end Go.Proofs.YtfdgclnjpbkggaaDoor
