/-
  Part of the proof: SnI.
-/
import Derived.Test.YtjhgcbchdnoleaaPStoreqPR
import Derived.Test.YtjhgcbchdnoleaaPRgRmqPR
import Derived.Test.YtjhgcbchdnoleaaPG9
namespace Go.Proofs.Ytjhgcbchdnoleaa
section
open Go.ChangeShapes Go.WideShapes Go.ChangeAt Go.RowKit
set_option linter.unusedSimpArgs false
set_option linter.unusedVariables false
set_option maxHeartbeats 4000000 in
set_option maxRecDepth 100000 in
theorem isInside_any (s : Sn) (a : Ads) (c1 c2 c3 c4 : Nat) (o : Int) (d : ByteArray) (fin : Bool) (w : World) (ho : -1000000 ≤ o ∧ o ≤ 4611686018427387903) (he : -1 ≤ s.e ∧ s.e ≤ 4611686018427387903) (hd : (d.size : Int) ≤ 1048576) :
    Calls Try.prog 105 #[.agg #[.int .i64 s.st, .int .i64 s.z, .int .i64 s.b, .int .i64 s.e, .slice a.r s.xs.length c1, .slice a.p s.p.length c2, .slice a.f s.f.length c3, .slice a.k s.k.length c4, .int .i64 s.fi, .int .i64 s.fk, .int .i64 s.se, .int .i64 s.co], .agg #[.int .i64 o, .string d, .bool fin]] w fun en w' => en = .returned (.bool (pieceIn s o d.size fin)) ∧ Ext w w' := by
  have hw1 : IntKind.i64.wrap (s.e - o) = s.e - o := IntWalk.i64_in _ (by omega)
  have hw2 : IntKind.i64.wrap (o + (d.size : Int)) = o + (d.size : Int) := IntWalk.i64_in _ (by omega)
  by_cases h1 : 0 ≤ o
  rotate_left
  · have h1e : decide (o < 0) = true := decide_eq_true (by omega)
    have hc : pieceIn s o d.size fin = false := by unfold pieceIn; simp [*]
    rw [hc]
    clear hc
    (try replace h4 := hide h4)
    obtain ⟨st, z, b, e, xs, p, f, k, fi, fk, se, co⟩ := s
    obtain ⟨ar, ap, af, ak⟩ := a
    dsimp only at *
    go_enter Try.func105, Try.ntmps105
    go_wp2
    go_ret
    exact ⟨rfl, Ext.go⟩
  have h1e : decide (o < 0) = false := decide_eq_false (by omega)
  by_cases h2 : o ≤ s.e
  rotate_left
  · have h2e : decide (s.e < o) = true := decide_eq_true (by omega)
    have hc : pieceIn s o d.size fin = false := by unfold pieceIn; simp [*]
    rw [hc]
    clear hc
    (try replace h4 := hide h4)
    obtain ⟨st, z, b, e, xs, p, f, k, fi, fk, se, co⟩ := s
    obtain ⟨ar, ap, af, ak⟩ := a
    dsimp only at *
    go_enter Try.func105, Try.ntmps105
    go_wp2
    go_ret
    exact ⟨rfl, Ext.go⟩
  have h2e : decide (s.e < o) = false := decide_eq_false (by omega)
  by_cases h3 : (d.size : Int) ≤ s.e - o
  rotate_left
  · have h3e : decide (s.e - o < (d.size : Int)) = true := decide_eq_true (by omega)
    have hc : pieceIn s o d.size fin = false := by unfold pieceIn; simp [*]
    rw [hc]
    clear hc
    (try replace h4 := hide h4)
    obtain ⟨st, z, b, e, xs, p, f, k, fi, fk, se, co⟩ := s
    obtain ⟨ar, ap, af, ak⟩ := a
    dsimp only at *
    go_enter Try.func105, Try.ntmps105
    go_wp2
    go_ret
    exact ⟨rfl, Ext.go⟩
  have h3e : decide (s.e - o < (d.size : Int)) = false := decide_eq_false (by omega)
  cases fin
  · skip
    have hc : pieceIn s o d.size false = true := by unfold pieceIn; simp [*]
    rw [hc]
    clear hc
    (try replace h4 := hide h4)
    obtain ⟨st, z, b, e, xs, p, f, k, fi, fk, se, co⟩ := s
    obtain ⟨ar, ap, af, ak⟩ := a
    dsimp only at *
    go_enter Try.func105, Try.ntmps105
    go_wp2
    go_ret
    exact ⟨rfl, Ext.go⟩
  by_cases h4 : o + (d.size : Int) = s.fi
  · have h4e : (o + (d.size : Int) == s.fi) = true := by simp [h4]
    have hc : pieceIn s o d.size true = true := by unfold pieceIn; simp [*]
    rw [hc]
    clear hc
    (try replace h4 := hide h4)
    obtain ⟨st, z, b, e, xs, p, f, k, fi, fk, se, co⟩ := s
    obtain ⟨ar, ap, af, ak⟩ := a
    dsimp only at *
    go_enter Try.func105, Try.ntmps105
    go_wp2
    go_ret
    exact ⟨rfl, Ext.go⟩
  have h4e : (o + (d.size : Int) == s.fi) = false := by simp [h4]
  have hc : pieceIn s o d.size true = false := by unfold pieceIn; simp [*]
  rw [hc]
  clear hc
  (try replace h4 := hide h4)
  obtain ⟨st, z, b, e, xs, p, f, k, fi, fk, se, co⟩ := s
  obtain ⟨ar, ap, af, ak⟩ := a
  dsimp only at *
  go_enter Try.func105, Try.ntmps105
  go_wp2
  go_ret
  exact ⟨rfl, Ext.go⟩
end
end Go.Proofs.Ytjhgcbchdnoleaa
