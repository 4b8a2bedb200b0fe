/-
  Questions of receivers as values, and whether a code is too long. No condition.
-/
import Derived.Test.YtifhbchlmlaanaaDrawL
import Derived.Test.YtifhbchlmlaanaaRvP
import Derived.Test.YtifhbchlmlaanaaIsRecvS
import Derived.Test.YtifhbchlmlaanaaRecvEq
import Derived.Test.YtifhbchlmlaanaaLawKit
namespace Go.Proofs.Ytifhbchlmlaanaa
open Go.ChangeShapes Go.WideShapes Go.ChangeAt Go.RowKit
set_option linter.unusedSimpArgs false
set_option linter.unusedVariables false
theorem big_any (ao : Option Addr) (len cap : Nat) (w : World) : Calls Try.prog 36 #[.slice ao len cap] w fun e w' => e = .returned (.bool (decide (1048576 < (len : Int)))) ∧ w = w' := by
  go_enter Try.func36, Try.ntmps36
  go_wp2
  go_ret
  simp
theorem recvEq_refl (st nx fi hg co : Int) (cs : List Ck) : recvEq st nx fi hg co st nx fi hg co cs cs = true := by simp [recvEq, bufEq]
/-- The reference's and the program's questions, of receivers as values. -/
def rvEq (r q : Rv) : Bool := recvEq r.st r.nx r.fi r.hg r.co q.st q.nx q.fi q.hg q.co r.cs q.cs
def rvIs (r : Rv) : Bool := recvIs r.st r.nx r.fi r.hg r.co r.cs
theorem rvEq_refl (r : Rv) : rvEq r r = true := recvEq_refl _ _ _ _ _ _
theorem eqr_spec {m : Nat} (r q : Rv) (ao bo : Option Addr) (ca cb : Nat) (w : World) (hx : ReadC w ao r.cs) (hy : ReadC w bo q.cs) (hr : RecOk m r) (hm : m ≤ 1048576) :
    Calls Try.prog 21 #[.agg #[.int .i64 r.st, .int .i64 r.nx, .slice ao r.cs.length ca, .int .i64 r.fi, .int .i64 r.hg, .int .i64 r.co], .agg #[.int .i64 q.st, .int .i64 q.nx, .slice bo q.cs.length cb, .int .i64 q.fi, .int .i64 q.hg, .int .i64 q.co]] w fun en w' => en = .returned (.bool (rvEq r q)) ∧ Ext w w' :=
  EqualReceivers_spec r.st r.nx r.fi r.hg r.co q.st q.nx q.fi q.hg q.co ao bo _ _ ca cb r.cs q.cs w hx hy rfl rfl (by have := hr.len; omega)
theorem eqr_same {m : Nat} (r : Rv) (ao bo : Option Addr) (ca cb : Nat) (w : World) (hx : ReadC w ao r.cs) (hy : ReadC w bo r.cs) (hr : RecOk m r) (hm : m ≤ 1048576) :
    Calls Try.prog 21 #[.agg #[.int .i64 r.st, .int .i64 r.nx, .slice ao r.cs.length ca, .int .i64 r.fi, .int .i64 r.hg, .int .i64 r.co], .agg #[.int .i64 r.st, .int .i64 r.nx, .slice bo r.cs.length cb, .int .i64 r.fi, .int .i64 r.hg, .int .i64 r.co]] w fun en w' => en = .returned (.bool true) ∧ Ext w w' := by
  have h := eqr_spec r r ao bo ca cb w hx hy hr hm
  rw [rvEq_refl] at h
  exact h
theorem isr_spec {m : Nat} (r : Rv) (ao : Option Addr) (ca : Nat) (w : World) (hx : ReadC w ao r.cs) (hr : RecOk m r) (hm : m ≤ 1048576) :
    Calls Try.prog 24 #[.agg #[.int .i64 r.st, .int .i64 r.nx, .slice ao r.cs.length ca, .int .i64 r.fi, .int .i64 r.hg, .int .i64 r.co]] w fun en w' => en = .returned (.bool (rvIs r)) ∧ Ext w w' :=
  IsReceiver_spec r.st r.nx r.fi r.hg r.co ao _ ca r.cs w hx rfl (by have := hr.len; omega) hr.wf hr.nx
theorem isr_impl {m : Nat} (r : Rv) (ao : Option Addr) (ca : Nat) (w : World) (hx : ReadC w ao r.cs) (hr : RecOk m r) (hm : m ≤ 1048576) :
    Calls Try.prog 25 #[.agg #[.int .i64 r.st, .int .i64 r.nx, .slice ao r.cs.length ca, .int .i64 r.fi, .int .i64 r.hg, .int .i64 r.co]] w fun en w' => en = .returned (.bool (rvIs r)) ∧ Ext w w' :=
  IsReceiver_impl r.st r.nx r.fi r.hg r.co ao _ ca r.cs w hx rfl (by have := hr.len; omega) hr.wf hr.nx
end Go.Proofs.Ytifhbchlmlaanaa
