/-
  Contracts of EncodeFixed at width one and of l2Byte. Condition: the number is a byte.
-/
import Derived.Test.YtjnbiacnhimkgaaIn
import Derived.Laws.IdiomStrings
import Derived.LoopTactic
namespace Go.Proofs.Ytjnbiacnhimkgaa
open Go.ChangeShapes Go.WideShapes Go.ChangeAt Go.RowKit
set_option linter.unusedSimpArgs false

/-- One byte as a string. -/
def byteS (x : Int) : ByteArray := ⟨#[UInt8.ofNat x.toNat]⟩
theorem and_255 (x : Int) (h0 : 0 ≤ x) (h1 : x ≤ 255) : bits .and .i64 x 255 = x := by
  obtain ⟨n, rfl⟩ := Int.eq_ofNat_of_zero_le h0
  have h : ∀ m : Fin 256, bits .and .i64 ((m.val : Nat) : Int) 255 = ((m.val : Nat) : Int) := by decide +kernel
  exact h ⟨n, by omega⟩
set_option maxRecDepth 100000 in
theorem encode1_any (x : Int) (w : World) (h0 : 0 ≤ x) (h1 : x ≤ 255) :
    Calls Try.prog 52 #[.int .i64 x, .int .i64 1] w fun e w' => e = .returned (.string (byteS x)) ∧ Ext w w' := by
  have hi : inB 1 1 7 = true := by decide
  have t1 : x.tmod 256 = x := Int.tmod_eq_of_lt h0 (by omega)
  have t2 : x.tdiv 256 = 0 := Int.tdiv_eq_zero_of_lt h0 (by omega)
  have t3 : decide (x < 0) = false := by simp; omega
  go_enter Try.func52, Try.ntmps52
  go_wp2_with (go_at_call 54; refine (l1In_any _ _ _ _).mono ?_; rintro e w1 ⟨rfl, rfl⟩)
  go_loopw [0, 5, 6] (fun n s i wr => (n = .int .i64 x ∧ s = .string ⟨#[]⟩ ∧ i = .int .i64 0 ∧ wr = w) ∨ (n = .int .i64 0 ∧ s = .string (byteS x) ∧ i = .int .i64 1 ∧ Ext w wr)) (fun _ _ i _ => 1 - (intOf i).toNat)
  case atStart => exact .inl ⟨rfl, rfl, rfl, rfl⟩
  case round =>
    rcases hrel with ⟨rfl, rfl, rfl, rfl⟩ | ⟨rfl, rfl, rfl, hg⟩
    · have hcv : (convert 22 9 (.slice (some ⟨wr.heap.size, 0, none⟩) 1 1)).run Try.prog (wr.alloc (.cells #[.int .u8 x] 5)) = .ok (.string (byteS x)) (wr.alloc (.cells #[.int .u8 x] 5)) := by
        refine run_convert_bytes_back _ _ _ 5 ⟨wr.heap.size, 0, none⟩ 1 [UInt8.ofNat x.toNat] Try.underlying22 Try.underlying5 Try.underlying9 ?_
        intro j hj
        obtain rfl : j = 0 := by simpa using hj
        simp [go_sem]
        omega
      go_wp2
      refine ⟨.inr ⟨rfl, ?_, rfl, (Ext.refl _).alloc _⟩, by simp [intOf]⟩
      congr 1
    · go_wp2
      go_ret
      exact ⟨rfl, hg⟩
theorem l2Byte_any (x : Int) (w : World) (h0 : 0 ≤ x) (h1 : x ≤ 255) :
    Calls Try.prog 39 #[.int .i64 x] w fun e w' => e = .returned (.string (byteS x)) ∧ Ext w w' := by
  have hb := and_255 x h0 h1
  go_enter Try.func39, Try.ntmps39
  go_wp2_with fail
  refine (encode1_any _ _ h0 h1).mono ?_
  rintro e w1 ⟨rfl, hg⟩
  go_wp2
  go_ret
  exact ⟨rfl, hg⟩
end Go.Proofs.Ytjnbiacnhimkgaa
