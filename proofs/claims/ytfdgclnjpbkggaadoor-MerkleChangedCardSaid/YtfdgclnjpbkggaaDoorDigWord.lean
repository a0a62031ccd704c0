/- The words of the digest: a word turned, a word out of four bytes; in the program and in the reference. -/
import Derived.Test.YtfdgclnjpbkggaaDoorBase
namespace Go.Proofs.YtfdgclnjpbkggaaDoor
open Go.RowKit
namespace Dig

/-- x turned n digits to the right, as the model reckons it. -/
def rotr (x n : Int) : Int := bits .or .u32 (x / 2 ^ n.toNat) (x * 2 ^ (32 - n).toNat % 4294967296)
/-- The word of four bytes. -/
def word (a b c d : Int) : Int :=
  bits .or .u32 (bits .or .u32 (bits .or .u32 (a % 4294967296 * 16777216 % 4294967296) (b % 4294967296 * 65536 % 4294967296)) (c % 4294967296 * 256 % 4294967296)) (d % 4294967296)

set_option maxHeartbeats 400000 in
theorem turn_any (x n : Int) (w : World) (hn : 0 ≤ n) (hn2 : n ≤ 32) :
    Calls Tryd.prog 49 #[.int .u32 x, .int .u64 n] w fun e w' => e = .returned (.int .u32 (rotr x n)) ∧ w = w' := by
  go_enter Tryd.func49, Tryd.ntmps49
  go_wp2
  go_ret
  exact ⟨rfl, rfl⟩

set_option maxHeartbeats 400000 in
theorem word_any (b o len cap : Nat) (x0 x1 x2 x3 : Int) (w : World) (hl : 4 ≤ len)
   (h0 : w.cell? ⟨b, o, none⟩ = some (.int .u8 x0)) (h1 : w.cell? ⟨b, o + 1, none⟩ = some (.int .u8 x1))
   (h2 : w.cell? ⟨b, o + 2, none⟩ = some (.int .u8 x2)) (h3 : w.cell? ⟨b, o + 3, none⟩ = some (.int .u8 x3)) :
    Calls Tryd.prog 48 #[.slice (some ⟨b, o, none⟩) len cap] w fun e w' => e = .returned (.int .u32 (word x0 x1 x2 x3)) ∧ Drawn w w' := by
  have a0 : (0 : Int) < len := by omega
  have a1 : (1 : Int) < len := by omega
  have a2 : (2 : Int) < len := by omega
  have a3 : (3 : Int) < len := by omega
  go_enter Tryd.func48, Tryd.ntmps48
  go_wp2
  go_quiet (fail)
  go_wp2
  go_ret
  exact ⟨rfl, Drawn.mk _ _⟩

end Dig
end Go.Proofs.YtfdgclnjpbkggaaDoor
