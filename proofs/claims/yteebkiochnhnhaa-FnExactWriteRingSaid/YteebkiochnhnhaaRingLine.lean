/-
  The line of a table that says: a ring of these parts.
-/
import Derived.Test.YteebkiochnhnhaaTable
import Derived.Test.YteebkiochnhnhaaRing
namespace Go.Proofs.Yteebkiochnhnhaa
def ringL (z b e : Int) (xs : List Int) : Line :=
  ⟨fun v w => ∃ (ao : Option Addr) (cap : Nat), v = .agg #[.int .i64 z, .int .i64 b, .int .i64 e, .slice ao xs.length cap] ∧ ReadS w ao xs,
   fun _ _ _ hg ⟨ao, cap, h1, h2⟩ => ⟨ao, cap, h1, h2.ext hg⟩⟩
theorem ringL_mk {z b e : Int} {xs : List Int} {ao : Option Addr} {cap : Nat} {w : World} (h : ReadS w ao xs) : (ringL z b e xs).p (.agg #[.int .i64 z, .int .i64 b, .int .i64 e, .slice ao xs.length cap]) w := ⟨ao, cap, rfl, h⟩
theorem ringL_get {z b e : Int} {xs : List Int} {v : Value} {w : World} (h : (ringL z b e xs).p v w) : ∃ (ao : Option Addr) (cap : Nat), v = .agg #[.int .i64 z, .int .i64 b, .int .i64 e, .slice ao xs.length cap] ∧ ReadS w ao xs := h
end Go.Proofs.Yteebkiochnhnhaa
