/-
  Receivers as values: what the reference's and the program's functions give, in one form. Conditions: the chunks can be read.
-/
import Derived.Test.YtjnbiacnhimkgaaRecvData
import Derived.Test.YtjnbiacnhimkgaaRecvRead
namespace Go.Proofs.Ytjnbiacnhimkgaa
open Go.ChangeShapes Go.WideShapes Go.ChangeAt Go.RowKit
set_option linter.unusedSimpArgs false
set_option linter.unusedVariables false
/-- A receiver's parts. -/
structure Rv where
  st : Int
  nx : Int
  fi : Int
  hg : Int
  co : Int
  cs : List Ck
/-- What is known of a drawn receiver. -/
structure RecOk (m : Nat) (r : Rv) : Prop where
  len : r.cs.length ≤ m
  wf : WfC r.cs
  nx : -9223372036854775808 ≤ r.nx ∧ r.nx ≤ 9223372036854775807
theorem RecOk.mono {m m' : Nat} {r : Rv} (h : RecOk m r) (k : m ≤ m') : RecOk m' r := ⟨Nat.le_trans h.len k, h.wf, h.nx⟩
def rdaV (r : Rv) (off : Int) (data : ByteArray) (fin : Bool) : Rv :=
  if rdaGo r.st r.nx r.fi r.hg r.co off data fin r.cs = true then ⟨rdaSt r.st r.nx (rdaFi r.fi (off + (data.size : Int)) fin) fin (insC r.nx r.cs off data), r.nx, rdaFi r.fi (off + (data.size : Int)) fin, max r.hg (off + (data.size : Int)), r.co, insC r.nx r.cs off data⟩ else r
def rdaW (r : Rv) (off : Int) (data : ByteArray) (fin : Bool) : Int := if rdaGo r.st r.nx r.fi r.hg r.co off data fin r.cs = true then 0 else rdaE r.st r.nx r.fi r.hg r.co off data fin r.cs
def rrV (r : Rv) (k f : Int) : Rv := if rrGo r.st r.nx r.fi r.hg r.co k f r.cs = true then ⟨4, r.nx, f, f, k, []⟩ else r
def rrW (r : Rv) (k f : Int) : Int := if rrGo r.st r.nx r.fi r.hg r.co k f r.cs = true then 0 else rrE r.st r.nx r.fi r.hg r.co k f r.cs
def rdV (r : Rv) (m : Int) : Rv := ⟨rdT r.st r.nx r.fi r.hg r.co m r.cs, rdX r.st r.nx r.fi r.hg r.co m r.cs, r.fi, r.hg, r.co, rdC r.st r.nx r.fi r.hg r.co m r.cs⟩
def rdText (r : Rv) (m : Int) : ByteArray := rdS r.st r.nx r.fi r.hg r.co m r.cs
theorem takeX_bd {nx most : Int} {cs : List Ck} (h : -9223372036854775808 ≤ nx ∧ nx ≤ 9223372036854775807) : -9223372036854775808 ≤ takeX nx most cs ∧ takeX nx most cs ≤ 9223372036854775807 := by
  have hb := readyB_bd nx cs
  unfold takeX takeN
  omega
theorem takeC_wf {nx most : Int} {cs : List Ck} (h : WfC cs) : WfC (takeC nx most cs) := by
  have hb := readyB_bd nx cs
  unfold takeC
  split
  · exact h
  · rename_i h0
    have hp : 0 < readyB nx cs := by unfold takeN at h0; omega
    obtain ⟨_, r2, r3, r4⟩ := readyB_pos hp
    have ht : ∀ c ∈ cs.tail, c ∈ cs := fun c hc => List.mem_of_mem_tail hc
    split
    · exact fun c hc => h c (ht c hc)
    · intro c hc
      rcases List.mem_cons.1 hc with rfl | hc
      · have hd := h.at r2
        have hz : ((cs.getD 0 dk).2.extract (takeN nx most cs).toNat (cs.getD 0 dk).2.size).size ≤ (cs.getD 0 dk).2.size := by
          rw [ByteArray.size_extract]; omega
        dsimp only
        have hq : takeN nx most cs ≤ readyB nx cs := by unfold takeN; omega
        have hq0 : 0 ≤ takeN nx most cs := by unfold takeN; omega
        omega
      · exact h c (ht c hc)
theorem rdaV_ok {m : Nat} {r : Rv} {off : Int} {data : ByteArray} {fin : Bool} (h : RecOk m r) : RecOk (m + 1) (rdaV r off data fin) := by
  unfold rdaV
  split
  · exact ⟨by have := insC_length r.nx r.cs off data; have := h.len; dsimp only; omega, insC_wf h.wf, h.nx⟩
  · exact h.mono (Nat.le_succ m)
theorem rrV_ok {m : Nat} {r : Rv} {k f : Int} (h : RecOk m r) : RecOk m (rrV r k f) := by
  unfold rrV
  split
  · exact ⟨Nat.zero_le _, fun c hc => by simp at hc, h.nx⟩
  · exact h
theorem rdV_ok {m : Nat} {r : Rv} {q : Int} (h : RecOk m r) : RecOk m (rdV r q) := by
  refine ⟨Nat.le_trans (rdC_length _ _ _ _ _ _ _) h.len, ?_, ?_⟩
  · show WfC (rdC _ _ _ _ _ _ _)
    unfold rdC
    split
    · exact takeC_wf h.wf
    · exact h.wf
  · show -9223372036854775808 ≤ rdX _ _ _ _ _ _ _ ∧ rdX _ _ _ _ _ _ _ ≤ 9223372036854775807
    unfold rdX
    split
    · exact takeX_bd h.nx
    · exact h.nx
/-- A receiver: its chunks in memory of the call's own. -/
def RvRes (r : Rv) (v : Value) (w : World) (en : Ending) (w' : World) : Prop :=
  ∃ (ao : Option Addr) (cap : Nat), en = .returned (.tuple #[.agg #[.int .i64 r.st, .int .i64 r.nx, .slice ao r.cs.length cap, .int .i64 r.fi, .int .i64 r.hg, .int .i64 r.co], v]) ∧ OwnC w.heap.size w'.heap.size w' ao r.cs ∧ Ext w w'
def RvRes2 (v : ByteArray) (r : Rv) (w : World) (en : Ending) (w' : World) : Prop :=
  ∃ (ao : Option Addr) (cap : Nat), en = .returned (.tuple #[.string v, .agg #[.int .i64 r.st, .int .i64 r.nx, .slice ao r.cs.length cap, .int .i64 r.fi, .int .i64 r.hg, .int .i64 r.co]]) ∧ OwnC w.heap.size w'.heap.size w' ao r.cs ∧ Ext w w'
end Go.Proofs.Ytjnbiacnhimkgaa
