/-
  Contracts of rings as values; what a ring gives back behind a write. No condition.
-/
import Derived.Test.YteebkiochnhnhaaDrawRgs
import Derived.Test.YteebkiochnhnhaaRingP
import Derived.Test.YteebkiochnhnhaaRingEq
namespace Go.Proofs.Yteebkiochnhnhaa
open Go.ChangeShapes Go.WideShapes Go.ChangeAt Go.RowKit
set_option linter.unusedSimpArgs false
set_option linter.unusedVariables false
theorem big_any (ao : Option Addr) (len cap : Nat) (w : World) : Calls Try.prog 30 #[.slice ao len cap] w fun e w' => e = .returned (.bool (decide (1048576 < (len : Int)))) ∧ w = w' := by
  go_enter Try.func30, Try.ntmps30
  go_wp2
  go_ret
  simp
def rnEq (r q : Rn) : Bool := ringEq r.z r.b r.e q.z q.b q.e r.xs q.xs
def rnIs (r : Rn) : Bool := isRing r.z r.b r.e r.xs
def rnRoom (r : Rn) : Int := roomOf r.z r.b r.e r.xs
def pkOk (r : Rn) (o n : Int) : Bool := peekOk r.z r.b r.e o n r.xs
def pkS (r : Rn) (o n : Int) : ByteArray := if pkOk r o n = true then peekS r.xs r.z o n.toNat else ⟨#[]⟩
theorem pk_v (r : Rn) (o n : Int) : peekV r.z r.b r.e o n r.xs = .tuple #[.string (pkS r o n), .bool (pkOk r o n)] := by
  have hd : pkOk r o n = peekOk r.z r.b r.e o n r.xs := rfl
  unfold peekV pkS
  rw [hd]
  cases peekOk r.z r.b r.e o n r.xs <;> rfl
def nwR (n : Int) : Rn := if ringSz n = true then ⟨n, 0, 0, List.replicate n.toNat 0⟩ else ⟨0, 0, 0, []⟩
theorem rnEq_refl (r : Rn) : rnEq r r = true := by simp [rnEq, ringEq]
theorem RnAny.wr {r : Rn} (h : RnAny r) {d : ByteArray} (hd : (d.size : Int) ≤ 9) : (wrR r d).xs.length ≤ 64 ∧ (wrR r d).e ≤ 4611686018427387913 ∧ -1 ≤ (wrR r d).e := by
  have := writeM_eq r.z r.b r.e d r.xs
  have h1 := h.e0
  have h2 := h.e1
  have h3 := roomOf_bd r.z r.b r.e r.xs
  refine ⟨by show (setN _ _ _ _ _).length ≤ 64; rw [setN_length]; exact h.len, ?_, ?_⟩
  · show r.e + _ ≤ _
    omega
  · show _ ≤ r.e + _
    omega
theorem nwR_any (n : Int) (h : n ≤ 128) : RnAny (nwR n) := by
  unfold nwR
  split
  · rename_i h
    have := ringSz_bd h
    exact ⟨by simp; omega, by dsimp only; omega, by dsimp only; omega, Int.le_refl _, by dsimp only; omega, by dsimp only; omega, by dsimp only; omega⟩
  · exact ⟨by decide, by decide, by decide, by decide, by decide, by decide, by decide⟩
theorem isn_impl (r : Rn) (ao : Option Addr) (ca : Nat) (w : World) (hx : ReadS w ao r.xs) (hr : RnAny r) :
    Calls Try.prog 21 #[.agg #[.int .i64 r.z, .int .i64 r.b, .int .i64 r.e, .slice ao r.xs.length ca]] w fun en w' => en = .returned (.bool (rnIs r)) ∧ Ext w w' :=
  IsRing_impl r.z r.b r.e ao _ ca r.xs w hx rfl (by have := hr.len; omega)
theorem rmn_impl (r : Rn) (ao : Option Addr) (ca : Nat) (w : World) (hx : ReadS w ao r.xs) (hr : RnAny r) :
    Calls Try.prog 23 #[.agg #[.int .i64 r.z, .int .i64 r.b, .int .i64 r.e, .slice ao r.xs.length ca]] w fun en w' => en = .returned (.int .i64 (rnRoom r)) ∧ Ext w w' :=
  RoomOf_impl r.z r.b r.e ao _ ca r.xs w hx rfl (by have := hr.len; omega)
theorem eqn_impl (r q : Rn) (ao bo : Option Addr) (ca cb : Nat) (w : World) (hx : ReadS w ao r.xs) (hy : ReadS w bo q.xs) (hl : r.xs.length ≤ 64) :
    Calls Try.prog 19 #[.agg #[.int .i64 r.z, .int .i64 r.b, .int .i64 r.e, .slice ao r.xs.length ca], .agg #[.int .i64 q.z, .int .i64 q.b, .int .i64 q.e, .slice bo q.xs.length cb]] w fun en w' => en = .returned (.bool (rnEq r q)) ∧ Ext w w' :=
  EqualRings_impl r.z r.b r.e q.z q.b q.e ao bo _ _ ca cb r.xs q.xs w hx hy rfl rfl (by omega)
theorem nw_impl (n : Int) (w : World) : Calls Try.prog 12 #[.int .i64 n] w (RnRes (nwR n) (.bool (ringSz n)) w) := by
  rcases Bool.eq_false_or_eq_true (ringSz n) with h | h
  · have hb := ringSz_bd h
    obtain ⟨k, rfl⟩ : ∃ k : Nat, n = (k : Int) := ⟨n.toNat, by omega⟩
    have e : nwR (k : Int) = ⟨k, 0, 0, List.replicate k 0⟩ := by unfold nwR; rw [if_pos h]; simp
    rw [e, h]
    refine (NewRing_impl_yes k w h).mono ?_
    rintro en w' ⟨ao, cap, rfl, ho, hx⟩
    exact ⟨ao, cap, by simp, ho, hx⟩
  · have e : nwR n = ⟨0, 0, 0, []⟩ := by unfold nwR; rw [if_neg (by simp [h])]
    rw [e, h]
    refine (NewRing_impl_no n w h).mono ?_
    rintro en w' ⟨rfl, hx⟩
    exact ⟨none, 0, rfl, Or.inl rfl, hx⟩
theorem pk_impl (r : Rn) (o n : Int) (ao : Option Addr) (ca : Nat) (w : World) (hx : ReadS w ao r.xs) (hl : r.xs.length ≤ 64) (he : r.e ≤ 9223372036854775807) :
    Calls Try.prog 25 #[.agg #[.int .i64 r.z, .int .i64 r.b, .int .i64 r.e, .slice ao r.xs.length ca], .int .i64 o, .int .i64 n] w fun en w' => en = .returned (.tuple #[.string (pkS r o n), .bool (pkOk r o n)]) ∧ Ext w w' := by
  have h := PeekRing_impl r.z r.b r.e o n ao _ ca r.xs w hx rfl (by omega)
  rw [pk_v] at h
  exact h
theorem isn_spec (r : Rn) (ao : Option Addr) (ca : Nat) (w : World) (hx : ReadS w ao r.xs) (hr : RnAny r) :
    Calls Try.prog 20 #[.agg #[.int .i64 r.z, .int .i64 r.b, .int .i64 r.e, .slice ao r.xs.length ca]] w fun en w' => en = .returned (.bool (rnIs r)) ∧ Ext w w' :=
  IsRing_spec r.z r.b r.e ao _ ca r.xs w hx rfl (by have := hr.len; omega) (by have := hr.e1; omega)
theorem rmn_spec (r : Rn) (ao : Option Addr) (ca : Nat) (w : World) (hx : ReadS w ao r.xs) (hr : RnAny r) :
    Calls Try.prog 22 #[.agg #[.int .i64 r.z, .int .i64 r.b, .int .i64 r.e, .slice ao r.xs.length ca]] w fun en w' => en = .returned (.int .i64 (rnRoom r)) ∧ Ext w w' :=
  RoomOf_spec r.z r.b r.e ao _ ca r.xs w hx rfl (by have := hr.len; omega) (by have := hr.e1; omega)
theorem eqn_spec (r q : Rn) (ao bo : Option Addr) (ca cb : Nat) (w : World) (hx : ReadS w ao r.xs) (hy : ReadS w bo q.xs) (hl : r.xs.length ≤ 64) :
    Calls Try.prog 17 #[.agg #[.int .i64 r.z, .int .i64 r.b, .int .i64 r.e, .slice ao r.xs.length ca], .agg #[.int .i64 q.z, .int .i64 q.b, .int .i64 q.e, .slice bo q.xs.length cb]] w fun en w' => en = .returned (.bool (rnEq r q)) ∧ Ext w w' :=
  EqualRings_spec r.z r.b r.e q.z q.b q.e ao bo _ _ ca cb r.xs q.xs w hx hy rfl rfl (by omega)
theorem nw_spec (n : Int) (w : World) : Calls Try.prog 11 #[.int .i64 n] w (RnRes (nwR n) (.bool (ringSz n)) w) := by
  rcases Bool.eq_false_or_eq_true (ringSz n) with h | h
  · have hb := ringSz_bd h
    obtain ⟨k, rfl⟩ : ∃ k : Nat, n = (k : Int) := ⟨n.toNat, by omega⟩
    have e : nwR (k : Int) = ⟨k, 0, 0, List.replicate k 0⟩ := by unfold nwR; rw [if_pos h]; simp
    rw [e, h]
    refine (NewRing_spec_yes k w h).mono ?_
    rintro en w' ⟨ao, cap, rfl, ho, hx⟩
    exact ⟨ao, cap, by simp, ho, hx⟩
  · have e : nwR n = ⟨0, 0, 0, []⟩ := by unfold nwR; rw [if_neg (by simp [h])]
    rw [e, h]
    refine (NewRing_spec_no n w h).mono ?_
    rintro en w' ⟨rfl, hx⟩
    exact ⟨none, 0, rfl, Or.inl rfl, hx⟩
theorem pk_spec (r : Rn) (o n : Int) (ao : Option Addr) (ca : Nat) (w : World) (hx : ReadS w ao r.xs) (hl : r.xs.length ≤ 64) (he : r.e ≤ 9223372036854775807) :
    Calls Try.prog 24 #[.agg #[.int .i64 r.z, .int .i64 r.b, .int .i64 r.e, .slice ao r.xs.length ca], .int .i64 o, .int .i64 n] w fun en w' => en = .returned (.tuple #[.string (pkS r o n), .bool (pkOk r o n)]) ∧ Ext w w' := by
  have h := PeekRing_spec r.z r.b r.e o n ao _ ca r.xs w hx rfl (by omega) he
  rw [pk_v] at h
  exact h
theorem eqn_same (r : Rn) (ao bo : Option Addr) (ca cb : Nat) (w : World) (hx : ReadS w ao r.xs) (hy : ReadS w bo r.xs) (hl : r.xs.length ≤ 64) :
    Calls Try.prog 17 #[.agg #[.int .i64 r.z, .int .i64 r.b, .int .i64 r.e, .slice ao r.xs.length ca], .agg #[.int .i64 r.z, .int .i64 r.b, .int .i64 r.e, .slice bo r.xs.length cb]] w fun en w' => en = .returned (.bool true) ∧ Ext w w' := by
  have h := eqn_spec r r ao bo ca cb w hx hy hl
  rw [rnEq_refl] at h
  exact h
/-- What a ring gives back behind a write. -/
theorem rings_law {r : Rn} {d : ByteArray} (hI : rnIs r = true) :
    pkOk r r.b (r.e - r.b) = true ∧ pkOk (wrR r d) r.b ((wrR r d).e - r.b) = true ∧ pkS (wrR r d) r.b ((wrR r d).e - r.b) = pkS r r.b (r.e - r.b) ++ d.extract 0 (writeM r.z r.b r.e d r.xs) ∧ writeM r.z r.b r.e d r.xs ≤ d.size := by
  have hb := isRing_bd hI
  have hm := writeM_eq r.z r.b r.e d r.xs
  have hro : roomOf r.z r.b r.e r.xs = min (r.z - (r.e - r.b)) (4611686018427387903 - r.e) := if_pos hI
  rw [hro] at hm
  have o1 : pkOk r r.b (r.e - r.b) = true := by
    unfold pkOk peekOk
    rw [show isRing r.z r.b r.e r.xs = true from hI, inB_mk (Int.le_refl _) (by omega), decide_eq_true (by omega : 0 ≤ r.e - r.b), decide_eq_true (Int.le_refl _)]
    rfl
  have hW : isRing r.z r.b (r.e + (writeM r.z r.b r.e d r.xs : Nat)) (setN r.xs r.z r.e (byteAt d) (writeM r.z r.b r.e d r.xs)) = true := ring_wr hI d _ (by omega) (by omega)
  have o2 : pkOk (wrR r d) r.b ((wrR r d).e - r.b) = true := by
    show peekOk r.z r.b (r.e + (writeM r.z r.b r.e d r.xs : Nat)) r.b (r.e + (writeM r.z r.b r.e d r.xs : Nat) - r.b) (setN r.xs r.z r.e (byteAt d) (writeM r.z r.b r.e d r.xs)) = true
    unfold peekOk
    rw [hW, inB_mk (Int.le_refl _) (by omega), decide_eq_true (by omega : 0 ≤ r.e + (writeM r.z r.b r.e d r.xs : Nat) - r.b), decide_eq_true (Int.le_refl _)]
    rfl
  refine ⟨o1, o2, ?_, by omega⟩
  unfold pkS
  rw [if_pos o1, if_pos o2]
  show peekS (setN r.xs r.z r.e (byteAt d) (writeM r.z r.b r.e d r.xs)) r.z r.b (r.e + (writeM r.z r.b r.e d r.xs : Nat) - r.b).toNat = _
  have en : (r.e + (writeM r.z r.b r.e d r.xs : Nat) - r.b).toNat = (r.e - r.b).toNat + writeM r.z r.b r.e d r.xs := by omega
  rw [en]
  exact peek_wr hI d _ (by omega) (by omega)
end Go.Proofs.Yteebkiochnhnhaa
