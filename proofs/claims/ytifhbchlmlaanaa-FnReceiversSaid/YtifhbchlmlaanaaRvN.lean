/-
  Contracts of RecvName, IsReceived, NewBytes and EqualReceivers, of receivers as values. No condition.
-/
import Derived.Test.YtifhbchlmlaanaaRvD
namespace Go.Proofs.Ytifhbchlmlaanaa
open Go.ChangeShapes Go.WideShapes Go.ChangeAt Go.RowKit
set_option linter.unusedSimpArgs false
set_option linter.unusedVariables false
def recvNm (n : Int) : ByteArray := if n = 0 then ⟨#[111, 112, 101, 110]⟩ else if n = 1 then ⟨#[115, 105, 122, 101, 100]⟩ else if n = 2 then ⟨#[97, 108, 108]⟩ else if n = 3 then ⟨#[114, 101, 97, 100]⟩ else if n = 4 then ⟨#[114, 101, 115, 101, 116]⟩ else if n = 5 then ⟨#[114, 101, 115, 101, 116, 114, 101, 97, 100]⟩ else ⟨#[]⟩
theorem nmI0 (s0 s1 s2 s3 s4 s5 : Value) (w : World) : (Instr.index 93 (.agg #[s0, s1, s2, s3, s4, s5]) (.int .i64 0)).run Try.prog w = .ok s0 w := by kernel_rfl
theorem nmI1 (s0 s1 s2 s3 s4 s5 : Value) (w : World) : (Instr.index 93 (.agg #[s0, s1, s2, s3, s4, s5]) (.int .i64 1)).run Try.prog w = .ok s1 w := by kernel_rfl
theorem nmI2 (s0 s1 s2 s3 s4 s5 : Value) (w : World) : (Instr.index 93 (.agg #[s0, s1, s2, s3, s4, s5]) (.int .i64 2)).run Try.prog w = .ok s2 w := by kernel_rfl
theorem nmI3 (s0 s1 s2 s3 s4 s5 : Value) (w : World) : (Instr.index 93 (.agg #[s0, s1, s2, s3, s4, s5]) (.int .i64 3)).run Try.prog w = .ok s3 w := by kernel_rfl
theorem nmI4 (s0 s1 s2 s3 s4 s5 : Value) (w : World) : (Instr.index 93 (.agg #[s0, s1, s2, s3, s4, s5]) (.int .i64 4)).run Try.prog w = .ok s4 w := by kernel_rfl
theorem nmI5 (s0 s1 s2 s3 s4 s5 : Value) (w : World) : (Instr.index 93 (.agg #[s0, s1, s2, s3, s4, s5]) (.int .i64 5)).run Try.prog w = .ok s5 w := by kernel_rfl
theorem RecvName_impl_0 (w : World) : Calls Try.prog 43 #[.int .i64 0] w fun en w' => en = .returned (.string (recvNm 0)) ∧ Ext w w' := by
  have hi := nmI0
  go_enter Try.func43, Try.ntmps43
  go_wp2
  go_ret
  exact ⟨rfl, (by repeat (first | with_reducible exact Ext.refl _ | with_reducible assumption | with_reducible refine Ext.alloc ?_ _ | with_reducible refine Ext.drew ?_ | with_reducible refine Ext.drewN ?_ _ | ((with_reducible refine Ext.set ?_ ?_ _); (focus (first | (simp; done) | (simp; omega)))) | with_reducible refine Ext.trans ?_ (by assumption)))⟩
theorem RecvName_impl_1 (w : World) : Calls Try.prog 43 #[.int .i64 1] w fun en w' => en = .returned (.string (recvNm 1)) ∧ Ext w w' := by
  have hi := nmI1
  go_enter Try.func43, Try.ntmps43
  go_wp2
  go_ret
  exact ⟨rfl, (by repeat (first | with_reducible exact Ext.refl _ | with_reducible assumption | with_reducible refine Ext.alloc ?_ _ | with_reducible refine Ext.drew ?_ | with_reducible refine Ext.drewN ?_ _ | ((with_reducible refine Ext.set ?_ ?_ _); (focus (first | (simp; done) | (simp; omega)))) | with_reducible refine Ext.trans ?_ (by assumption)))⟩
theorem RecvName_impl_2 (w : World) : Calls Try.prog 43 #[.int .i64 2] w fun en w' => en = .returned (.string (recvNm 2)) ∧ Ext w w' := by
  have hi := nmI2
  go_enter Try.func43, Try.ntmps43
  go_wp2
  go_ret
  exact ⟨rfl, (by repeat (first | with_reducible exact Ext.refl _ | with_reducible assumption | with_reducible refine Ext.alloc ?_ _ | with_reducible refine Ext.drew ?_ | with_reducible refine Ext.drewN ?_ _ | ((with_reducible refine Ext.set ?_ ?_ _); (focus (first | (simp; done) | (simp; omega)))) | with_reducible refine Ext.trans ?_ (by assumption)))⟩
theorem RecvName_impl_3 (w : World) : Calls Try.prog 43 #[.int .i64 3] w fun en w' => en = .returned (.string (recvNm 3)) ∧ Ext w w' := by
  have hi := nmI3
  go_enter Try.func43, Try.ntmps43
  go_wp2
  go_ret
  exact ⟨rfl, (by repeat (first | with_reducible exact Ext.refl _ | with_reducible assumption | with_reducible refine Ext.alloc ?_ _ | with_reducible refine Ext.drew ?_ | with_reducible refine Ext.drewN ?_ _ | ((with_reducible refine Ext.set ?_ ?_ _); (focus (first | (simp; done) | (simp; omega)))) | with_reducible refine Ext.trans ?_ (by assumption)))⟩
theorem RecvName_impl_4 (w : World) : Calls Try.prog 43 #[.int .i64 4] w fun en w' => en = .returned (.string (recvNm 4)) ∧ Ext w w' := by
  have hi := nmI4
  go_enter Try.func43, Try.ntmps43
  go_wp2
  go_ret
  exact ⟨rfl, (by repeat (first | with_reducible exact Ext.refl _ | with_reducible assumption | with_reducible refine Ext.alloc ?_ _ | with_reducible refine Ext.drew ?_ | with_reducible refine Ext.drewN ?_ _ | ((with_reducible refine Ext.set ?_ ?_ _); (focus (first | (simp; done) | (simp; omega)))) | with_reducible refine Ext.trans ?_ (by assumption)))⟩
theorem RecvName_impl_5 (w : World) : Calls Try.prog 43 #[.int .i64 5] w fun en w' => en = .returned (.string (recvNm 5)) ∧ Ext w w' := by
  have hi := nmI5
  go_enter Try.func43, Try.ntmps43
  go_wp2
  go_ret
  exact ⟨rfl, (by repeat (first | with_reducible exact Ext.refl _ | with_reducible assumption | with_reducible refine Ext.alloc ?_ _ | with_reducible refine Ext.drew ?_ | with_reducible refine Ext.drewN ?_ _ | ((with_reducible refine Ext.set ?_ ?_ _); (focus (first | (simp; done) | (simp; omega)))) | with_reducible refine Ext.trans ?_ (by assumption)))⟩
theorem RecvName_impl (n : Int) (w : World) : Calls Try.prog 43 #[.int .i64 n] w fun en w' => en = .returned (.string (recvNm n)) ∧ Ext w w' := by
  by_cases h : n < 0 ∨ 5 < n
  · have e : recvNm n = ⟨#[]⟩ := by
      unfold recvNm
      rw [if_neg (by omega), if_neg (by omega), if_neg (by omega), if_neg (by omega), if_neg (by omega), if_neg (by omega)]
    rcases h with h | h
    · go_enter Try.func43, Try.ntmps43
      go_wp2
      go_ret
      exact ⟨by first | rfl | (rw [e]; rfl), (by repeat (first | with_reducible exact Ext.refl _ | with_reducible assumption | with_reducible refine Ext.alloc ?_ _ | with_reducible refine Ext.drew ?_ | with_reducible refine Ext.drewN ?_ _ | ((with_reducible refine Ext.set ?_ ?_ _); (focus (first | (simp; done) | (simp; omega)))) | with_reducible refine Ext.trans ?_ (by assumption)))⟩
    · have h2 : 0 ≤ n := by omega
      have h3 : decide (n ≤ 5) = false := by simp; omega
      go_enter Try.func43, Try.ntmps43
      go_wp2
      go_ret
      exact ⟨by first | rfl | (rw [e]; rfl), (by repeat (first | with_reducible exact Ext.refl _ | with_reducible assumption | with_reducible refine Ext.alloc ?_ _ | with_reducible refine Ext.drew ?_ | with_reducible refine Ext.drewN ?_ _ | ((with_reducible refine Ext.set ?_ ?_ _); (focus (first | (simp; done) | (simp; omega)))) | with_reducible refine Ext.trans ?_ (by assumption)))⟩
  · have h6 : n = 0 ∨ n = 1 ∨ n = 2 ∨ n = 3 ∨ n = 4 ∨ n = 5 := by omega
    rcases h6 with rfl | rfl | rfl | rfl | rfl | rfl
    · exact RecvName_impl_0 w
    · exact RecvName_impl_1 w
    · exact RecvName_impl_2 w
    · exact RecvName_impl_3 w
    · exact RecvName_impl_4 w
    · exact RecvName_impl_5 w
theorem RecvName_spec_0 (w : World) : Calls Try.prog 44 #[.int .i64 0] w fun en w' => en = .returned (.string (recvNm 0)) ∧ Ext w w' := by
  have hi := nmI0
  go_enter Try.func44, Try.ntmps44
  go_wp2
  go_ret
  exact ⟨rfl, (by repeat (first | with_reducible exact Ext.refl _ | with_reducible assumption | with_reducible refine Ext.alloc ?_ _ | with_reducible refine Ext.drew ?_ | with_reducible refine Ext.drewN ?_ _ | ((with_reducible refine Ext.set ?_ ?_ _); (focus (first | (simp; done) | (simp; omega)))) | with_reducible refine Ext.trans ?_ (by assumption)))⟩
theorem RecvName_spec_1 (w : World) : Calls Try.prog 44 #[.int .i64 1] w fun en w' => en = .returned (.string (recvNm 1)) ∧ Ext w w' := by
  have hi := nmI1
  go_enter Try.func44, Try.ntmps44
  go_wp2
  go_ret
  exact ⟨rfl, (by repeat (first | with_reducible exact Ext.refl _ | with_reducible assumption | with_reducible refine Ext.alloc ?_ _ | with_reducible refine Ext.drew ?_ | with_reducible refine Ext.drewN ?_ _ | ((with_reducible refine Ext.set ?_ ?_ _); (focus (first | (simp; done) | (simp; omega)))) | with_reducible refine Ext.trans ?_ (by assumption)))⟩
theorem RecvName_spec_2 (w : World) : Calls Try.prog 44 #[.int .i64 2] w fun en w' => en = .returned (.string (recvNm 2)) ∧ Ext w w' := by
  have hi := nmI2
  go_enter Try.func44, Try.ntmps44
  go_wp2
  go_ret
  exact ⟨rfl, (by repeat (first | with_reducible exact Ext.refl _ | with_reducible assumption | with_reducible refine Ext.alloc ?_ _ | with_reducible refine Ext.drew ?_ | with_reducible refine Ext.drewN ?_ _ | ((with_reducible refine Ext.set ?_ ?_ _); (focus (first | (simp; done) | (simp; omega)))) | with_reducible refine Ext.trans ?_ (by assumption)))⟩
theorem RecvName_spec_3 (w : World) : Calls Try.prog 44 #[.int .i64 3] w fun en w' => en = .returned (.string (recvNm 3)) ∧ Ext w w' := by
  have hi := nmI3
  go_enter Try.func44, Try.ntmps44
  go_wp2
  go_ret
  exact ⟨rfl, (by repeat (first | with_reducible exact Ext.refl _ | with_reducible assumption | with_reducible refine Ext.alloc ?_ _ | with_reducible refine Ext.drew ?_ | with_reducible refine Ext.drewN ?_ _ | ((with_reducible refine Ext.set ?_ ?_ _); (focus (first | (simp; done) | (simp; omega)))) | with_reducible refine Ext.trans ?_ (by assumption)))⟩
theorem RecvName_spec_4 (w : World) : Calls Try.prog 44 #[.int .i64 4] w fun en w' => en = .returned (.string (recvNm 4)) ∧ Ext w w' := by
  have hi := nmI4
  go_enter Try.func44, Try.ntmps44
  go_wp2
  go_ret
  exact ⟨rfl, (by repeat (first | with_reducible exact Ext.refl _ | with_reducible assumption | with_reducible refine Ext.alloc ?_ _ | with_reducible refine Ext.drew ?_ | with_reducible refine Ext.drewN ?_ _ | ((with_reducible refine Ext.set ?_ ?_ _); (focus (first | (simp; done) | (simp; omega)))) | with_reducible refine Ext.trans ?_ (by assumption)))⟩
theorem RecvName_spec_5 (w : World) : Calls Try.prog 44 #[.int .i64 5] w fun en w' => en = .returned (.string (recvNm 5)) ∧ Ext w w' := by
  have hi := nmI5
  go_enter Try.func44, Try.ntmps44
  go_wp2
  go_ret
  exact ⟨rfl, (by repeat (first | with_reducible exact Ext.refl _ | with_reducible assumption | with_reducible refine Ext.alloc ?_ _ | with_reducible refine Ext.drew ?_ | with_reducible refine Ext.drewN ?_ _ | ((with_reducible refine Ext.set ?_ ?_ _); (focus (first | (simp; done) | (simp; omega)))) | with_reducible refine Ext.trans ?_ (by assumption)))⟩
theorem RecvName_spec (n : Int) (w : World) : Calls Try.prog 44 #[.int .i64 n] w fun en w' => en = .returned (.string (recvNm n)) ∧ Ext w w' := by
  by_cases h : n < 0 ∨ 5 < n
  · have e : recvNm n = ⟨#[]⟩ := by
      unfold recvNm
      rw [if_neg (by omega), if_neg (by omega), if_neg (by omega), if_neg (by omega), if_neg (by omega), if_neg (by omega)]
    rcases h with h | h
    · go_enter Try.func44, Try.ntmps44
      go_wp2
      go_ret
      exact ⟨by first | rfl | (rw [e]; rfl), (by repeat (first | with_reducible exact Ext.refl _ | with_reducible assumption | with_reducible refine Ext.alloc ?_ _ | with_reducible refine Ext.drew ?_ | with_reducible refine Ext.drewN ?_ _ | ((with_reducible refine Ext.set ?_ ?_ _); (focus (first | (simp; done) | (simp; omega)))) | with_reducible refine Ext.trans ?_ (by assumption)))⟩
    · have h2 : 0 ≤ n := by omega
      have h3 : decide (n ≤ 5) = false := by simp; omega
      go_enter Try.func44, Try.ntmps44
      go_wp2
      go_ret
      exact ⟨by first | rfl | (rw [e]; rfl), (by repeat (first | with_reducible exact Ext.refl _ | with_reducible assumption | with_reducible refine Ext.alloc ?_ _ | with_reducible refine Ext.drew ?_ | with_reducible refine Ext.drewN ?_ _ | ((with_reducible refine Ext.set ?_ ?_ _); (focus (first | (simp; done) | (simp; omega)))) | with_reducible refine Ext.trans ?_ (by assumption)))⟩
  · have h6 : n = 0 ∨ n = 1 ∨ n = 2 ∨ n = 3 ∨ n = 4 ∨ n = 5 := by omega
    rcases h6 with rfl | rfl | rfl | rfl | rfl | rfl
    · exact RecvName_spec_0 w
    · exact RecvName_spec_1 w
    · exact RecvName_spec_2 w
    · exact RecvName_spec_3 w
    · exact RecvName_spec_4 w
    · exact RecvName_spec_5 w
def rvDone (r : Rv) : Bool := recvDone r.st r.nx r.fi r.hg r.co r.cs
def rvNew (r : Rv) (e : Int) : Int := newB r.st r.nx r.fi r.hg r.co e r.cs
theorem isd_impl {m : Nat} (r : Rv) (ao : Option Addr) (ca : Nat) (w : World) (hx : ReadC w ao r.cs) (hr : RecOk m r) (hm : m ≤ 1048576) :
    Calls Try.prog 27 #[.agg #[.int .i64 r.st, .int .i64 r.nx, .slice ao r.cs.length ca, .int .i64 r.fi, .int .i64 r.hg, .int .i64 r.co]] w fun en w' => en = .returned (.bool (rvDone r)) ∧ Ext w w' :=
  IsReceived_impl r.st r.nx r.fi r.hg r.co ao _ ca r.cs w hx rfl (by have := hr.len; omega) hr.wf hr.nx
theorem nwb_impl {m : Nat} (r : Rv) (e : Int) (ao : Option Addr) (ca : Nat) (w : World) (hx : ReadC w ao r.cs) (hr : RecOk m r) (hm : m ≤ 1048576) :
    Calls Try.prog 29 #[.agg #[.int .i64 r.st, .int .i64 r.nx, .slice ao r.cs.length ca, .int .i64 r.fi, .int .i64 r.hg, .int .i64 r.co], .int .i64 e] w fun en w' => en = .returned (.int .i64 (rvNew r e)) ∧ Ext w w' :=
  NewBytes_impl r.st r.nx r.fi r.hg r.co e ao _ ca r.cs w hx rfl (by have := hr.len; omega) hr.wf hr.nx
theorem isd_spec {m : Nat} (r : Rv) (ao : Option Addr) (ca : Nat) (w : World) (hx : ReadC w ao r.cs) (hr : RecOk m r) (hm : m ≤ 1048576) :
    Calls Try.prog 26 #[.agg #[.int .i64 r.st, .int .i64 r.nx, .slice ao r.cs.length ca, .int .i64 r.fi, .int .i64 r.hg, .int .i64 r.co]] w fun en w' => en = .returned (.bool (rvDone r)) ∧ Ext w w' :=
  IsReceived_spec r.st r.nx r.fi r.hg r.co ao _ ca r.cs w hx rfl (by have := hr.len; omega) hr.wf hr.nx
theorem nwb_spec {m : Nat} (r : Rv) (e : Int) (ao : Option Addr) (ca : Nat) (w : World) (hx : ReadC w ao r.cs) (hr : RecOk m r) (hm : m ≤ 1048576) :
    Calls Try.prog 28 #[.agg #[.int .i64 r.st, .int .i64 r.nx, .slice ao r.cs.length ca, .int .i64 r.fi, .int .i64 r.hg, .int .i64 r.co], .int .i64 e] w fun en w' => en = .returned (.int .i64 (rvNew r e)) ∧ Ext w w' :=
  NewBytes_spec r.st r.nx r.fi r.hg r.co e ao _ ca r.cs w hx rfl (by have := hr.len; omega) hr.wf hr.nx
theorem nwb_zero {m : Nat} (r : Rv) (e : Int) (he : e ≤ r.hg) (ao : Option Addr) (ca : Nat) (w : World) (hx : ReadC w ao r.cs) (hr : RecOk m r) (hm : m ≤ 1048576) :
    Calls Try.prog 29 #[.agg #[.int .i64 r.st, .int .i64 r.nx, .slice ao r.cs.length ca, .int .i64 r.fi, .int .i64 r.hg, .int .i64 r.co], .int .i64 e] w fun en w' => en = .returned (.int .i64 0) ∧ Ext w w' := by
  have h := nwb_impl r e ao ca w hx hr hm
  have e0 : rvNew r e = 0 := newB_zero he
  rw [e0] at h
  exact h
theorem eqr_impl {m : Nat} (r q : Rv) (ao bo : Option Addr) (ca cb : Nat) (w : World) (hx : ReadC w ao r.cs) (hy : ReadC w bo q.cs) (hr : RecOk m r) (hm : m ≤ 1048576) :
    Calls Try.prog 23 #[.agg #[.int .i64 r.st, .int .i64 r.nx, .slice ao r.cs.length ca, .int .i64 r.fi, .int .i64 r.hg, .int .i64 r.co], .agg #[.int .i64 q.st, .int .i64 q.nx, .slice bo q.cs.length cb, .int .i64 q.fi, .int .i64 q.hg, .int .i64 q.co]] w fun en w' => en = .returned (.bool (rvEq r q)) ∧ Ext w w' :=
  EqualReceivers_impl r.st r.nx r.fi r.hg r.co q.st q.nx q.fi q.hg q.co ao bo _ _ ca cb r.cs q.cs w hx hy rfl rfl (by have := hr.len; omega)
theorem eqr_new (w : World) : Calls Try.prog 21 #[.agg #[.int .i64 0, .int .i64 0, .slice none 0 0, .int .i64 (-1), .int .i64 0, .int .i64 0], .agg #[.int .i64 0, .int .i64 0, .slice none 0 0, .int .i64 (-1), .int .i64 0, .int .i64 0]] w fun en w' => en = .returned (.bool true) ∧ Ext w w' := by
  have h := EqualReceivers_spec 0 0 (-1) 0 0 0 0 (-1) 0 0 none none 0 0 0 0 [] [] w (Or.inl rfl) (Or.inl rfl) rfl rfl (by decide)
  rw [recvEq_refl] at h
  exact h
def inQ (r : Rv) (off : Int) (data : ByteArray) : Bool := rvIs r && (decide (0 ≤ off) && decide (off + (data.size : Int) ≤ 4611686018427387903))
end Go.Proofs.Ytifhbchlmlaanaa
