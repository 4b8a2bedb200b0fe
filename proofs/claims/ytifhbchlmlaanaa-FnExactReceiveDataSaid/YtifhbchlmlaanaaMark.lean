/-
  Contract of markText: its text is a function of the number. Condition: the number is positive and not too large.
-/
import Derived.Test.YtifhbchlmlaanaaChg
import Derived.Test.YtifhbchlmlaanaaLawKit
import Derived.Laws.IdiomStrings
import Derived.LoopTactic
namespace Go.Proofs.Ytifhbchlmlaanaa
open Go.ChangeShapes Go.WideShapes Go.ChangeAt Go.RowKit
set_option linter.unusedSimpArgs false
def digS (k : Nat) : ByteArray := ⟨#[UInt8.ofNat (48 + k % 10)]⟩
def mtGo (k : Nat) (out : ByteArray) : ByteArray := if _ : k = 0 then out else mtGo (k / 10) (digS k ++ out)
termination_by k
decreasing_by omega
def mtext (k : Int) : ByteArray := ⟨#[109]⟩ ++ mtGo k.toNat ⟨#[]⟩
theorem digS_size (k : Nat) (s : ByteArray) : (digS k ++ s).size = s.size + 1 := by
  rw [ByteArray.size_append]
  have : (digS k).size = 1 := rfl
  omega
set_option maxHeartbeats 1000000 in
set_option maxRecDepth 100000 in
theorem markText_any (k0 : Int) (w : World) (h0 : 0 < k0) (h1 : k0 ≤ 4611686018427387904) :
    Calls Try.prog 115 #[.int .i64 k0] w fun e w' => e = .returned (.string (mtext k0)) ∧ Ext w w' := by
  have t0 : decide (k0 ≤ 0) = false := decide_eq_false (by omega)
  go_enter Try.func115, Try.ntmps115
  go_wp2
  go_loopw [0, 3] (fun n s wr => ∃ (k : Nat) (out : ByteArray), n = .int .i64 (k : Int) ∧ s = .string out ∧ mtGo k0.toNat ⟨#[]⟩ = mtGo k out ∧ k * 10 ^ out.size ≤ 4611686018427387904 ∧ out.size ≤ 20 ∧ Ext w wr) (fun n _ _ => (intOf n).toNat)
  case atStart => exact ⟨k0.toNat, ⟨#[]⟩, by congr 1; omega, rfl, rfl, by simp [ByteArray.size]; omega, by decide, Ext.refl _⟩
  case round =>
    obtain ⟨k, out, rfl, rfl, hgo, hbd, hsz, hg⟩ := hrel
    have hgo' := hide hgo
    have hbd' := hide hbd
    clear hgo hbd
    by_cases hk : k = 0
    · have hf : Hid (mtGo k0.toNat ⟨#[]⟩ = out) := hide (by rw [hgo'.out, mtGo, dif_pos hk])
      subst hk
      have hss : ((⟨#[109]⟩ : ByteArray) ++ out).size = out.size + 1 := by
        rw [ByteArray.size_append]
        have : (⟨#[109]⟩ : ByteArray).size = 1 := rfl
        omega
      have hnn : ¬ 9223372036854775807 < out.size + 1 := by omega
      go_wp2
      go_ret
      exact ⟨by rw [mtext, hf.out]; rfl, hg⟩
    · have hkp : (0 : Int) < (k : Int) := by omega
      have hs18 : out.size ≤ 18 := by
        rcases Nat.lt_or_ge 18 out.size with h | h
        · exfalso
          have h2 : 10 ^ 19 ≤ 10 ^ out.size := Nat.pow_le_pow_right (by omega) h
          have h3 := hbd'.out
          have h4 : 10 ^ out.size ≤ k * 10 ^ out.size := Nat.le_mul_of_pos_left _ (by omega)
          omega
        · exact h
      have hnx : Hid (mtGo k0.toNat ⟨#[]⟩ = mtGo (k / 10) (digS k ++ out)) := hide (by rw [hgo'.out, mtGo, dif_neg hk])
      have hsd := digS_size k out
      have hb2 : Hid (k / 10 * 10 ^ (digS k ++ out).size ≤ 4611686018427387904) := hide (by
        rw [hsd, Nat.pow_succ]
        have h3 := hbd'.out
        have h4 : k / 10 * (10 ^ out.size * 10) = (k / 10 * 10) * 10 ^ out.size := by rw [Nat.mul_comm (10 ^ out.size) 10, Nat.mul_assoc]
        rw [h4]
        exact Nat.le_trans (Nat.mul_le_mul_right _ (Nat.div_mul_le_self k 10)) h3)
      have r1 : ((k : Int)).tmod 10 = (k : Int) % 10 := Int.tmod_eq_emod_of_nonneg (by omega)
      have r2 : ((k : Int)).tdiv 10 = (k : Int) / 10 := Int.tdiv_eq_ediv_of_nonneg (by omega)
      have hcv : (convert 49 9 (.slice (some ⟨wr.heap.size, 0, none⟩) 1 1)).run Try.prog (wr.alloc (.cells #[.int .u8 (48 + (k : Int) % 10)] 5)) = .ok (.string (digS k)) (wr.alloc (.cells #[.int .u8 (48 + (k : Int) % 10)] 5)) := by
        refine run_convert_bytes_back _ _ _ 5 ⟨wr.heap.size, 0, none⟩ 1 [UInt8.ofNat (48 + k % 10)] Try.underlying49 Try.underlying5 Try.underlying9 ?_
        intro j hj
        obtain rfl : j = 0 := by simpa using hj
        simp [go_sem]
        omega
      have hnn : ¬ 9223372036854775807 < out.size + 1 := by omega
      have hsd1 : (digS k).size = 1 := rfl
      have hn2 : ¬ 9223372036854775807 < 1 + out.size := by omega
      have hk62 : k ≤ 4611686018427387904 := Nat.le_trans (Nat.le_mul_of_pos_right k (Nat.pow_pos (by omega))) hbd'.out
      have hq : RowKit.wrap64 ((k : Int) / 10) = ((k / 10 : Nat) : Int) := by rw [← IntWalk.i64_left, IntWalk.i64_in _ (by omega)]; omega
      have hw48 : IntKind.u8.wrap (48 + (k : Int) % 10) = 48 + (k : Int) % 10 := IntWalk.u8_in _ (by omega)
      go_wp2
      go_roundw
      case rel => exact ⟨k / 10, digS k ++ out, rfl, rfl, hnx.out, hb2.out, by omega, hg.alloc _⟩
      case measure => simp [intOf]; omega
end Go.Proofs.Ytifhbchlmlaanaa
