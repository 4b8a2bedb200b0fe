/-
  The line of a table that says: a receiver of these parts.
-/
import Derived.Test.YtifhbchlmlaanaaTable
import Derived.Test.YtifhbchlmlaanaaRecv
namespace Go.Proofs.Ytifhbchlmlaanaa
def recvL (st nx fi hg co : Int) (xs : List Ck) : Line :=
  ⟨fun v w => ∃ (ao : Option Addr) (cap : Nat), v = .agg #[.int .i64 st, .int .i64 nx, .slice ao xs.length cap, .int .i64 fi, .int .i64 hg, .int .i64 co] ∧ ReadC w ao xs,
   fun _ _ _ hg ⟨ao, cap, h1, h2⟩ => ⟨ao, cap, h1, h2.ext hg⟩⟩
theorem recvL_mk {st nx fi hg co : Int} {xs : List Ck} {ao : Option Addr} {cap : Nat} {w : World} (h : ReadC w ao xs) : (recvL st nx fi hg co xs).p (.agg #[.int .i64 st, .int .i64 nx, .slice ao xs.length cap, .int .i64 fi, .int .i64 hg, .int .i64 co]) w := ⟨ao, cap, rfl, h⟩
theorem recvL_get {st nx fi hg co : Int} {xs : List Ck} {v : Value} {w : World} (h : (recvL st nx fi hg co xs).p v w) : ∃ (ao : Option Addr) (cap : Nat), v = .agg #[.int .i64 st, .int .i64 nx, .slice ao xs.length cap, .int .i64 fi, .int .i64 hg, .int .i64 co] ∧ ReadC w ao xs := h
end Go.Proofs.Ytifhbchlmlaanaa
