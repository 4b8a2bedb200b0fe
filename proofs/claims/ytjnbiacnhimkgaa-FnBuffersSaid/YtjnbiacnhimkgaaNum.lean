/-
  Plain functions on integers: what the functions on credits, windows and counts compute. No program in sight.
-/
import Derived.Test.YtjnbiacnhimkgaaBase
namespace Go.Proofs.Ytjnbiacnhimkgaa
open Go.ChangeShapes Go.WideShapes Go.ChangeAt Go.RowKit
set_option linter.unusedSimpArgs false

def inB (lo n hi : Int) : Bool := decide (lo ≤ n) && decide (n ≤ hi)
theorem inB_true {lo n hi : Int} (h : inB lo n hi = true) : lo ≤ n ∧ n ≤ hi := by simpa [inB] using h
theorem inB_mk {lo n hi : Int} (h1 : lo ≤ n) (h2 : n ≤ hi) : inB lo n hi = true := by simp [inB, h1, h2]
theorem inB_no {lo n hi : Int} (h : ¬ (lo ≤ n ∧ n ≤ hi)) : inB lo n hi = false := by
  cases e : inB lo n hi with
  | false => rfl
  | true => exact absurd (inB_true e) h

/-! credit -/
structure Cr where
  l : Int
  u : Int
  b : Int
  t : Int
def isCredit (l u b t : Int) : Bool := inB 0 l 4611686018427387903 && inB 0 u l && inB (-1) b l && inB (-1) t l
theorem isCredit_bd {l u b t : Int} (h : isCredit l u b t = true) : 0 ≤ l ∧ l ≤ 4611686018427387903 ∧ 0 ≤ u ∧ u ≤ l ∧ -1 ≤ b ∧ b ≤ l ∧ -1 ≤ t ∧ t ≤ l := by
  simp only [isCredit, inB, Bool.and_eq_true, decide_eq_true_eq] at h
  omega
theorem isCredit_mk {l u b t : Int} (h : 0 ≤ l ∧ l ≤ 4611686018427387903 ∧ 0 ≤ u ∧ u ≤ l ∧ -1 ≤ b ∧ b ≤ l ∧ -1 ≤ t ∧ t ≤ l) : isCredit l u b t = true := by
  simp only [isCredit, inB, Bool.and_eq_true, decide_eq_true_eq]
  omega
def leftCr (l u b t : Int) : Int := if isCredit l u b t = true then l - u else 0
def useOk (l u b t n : Int) : Bool := isCredit l u b t && inB 0 n (l - u)
def useCr (l u b t n : Int) : Cr := if useOk l u b t n = true then ⟨l, u + n, b, t⟩ else ⟨l, u, b, t⟩
def raiseOk (l u b t n : Int) : Bool := isCredit l u b t && decide (l < n) && decide (n ≤ 4611686018427387903)
def raiseCr (l u b t n : Int) : Cr := if raiseOk l u b t n = true then ⟨n, u, -1, t⟩ else ⟨l, u, b, t⟩
def noteOk (l u b t : Int) : Bool := isCredit l u b t && (u == l) && (b == -1) && !(t == l)
def noteCr (l u b t : Int) : Cr := if noteOk l u b t = true then ⟨l, u, l, t⟩ else ⟨l, u, b, t⟩
def tellCr (l u b t : Int) : Bool := isCredit l u b t && (b == l)
def clearOk (l u b t : Int) : Bool := isCredit l u b t && !(b == -1)
def clearCr (l u b t : Int) : Cr := if clearOk l u b t = true then ⟨l, u, -1, b⟩ else ⟨l, u, b, t⟩
def newCr (n : Int) : Cr := if inB 0 n 4611686018427387903 = true then ⟨n, 0, -1, -1⟩ else ⟨0, 0, 0, 0⟩

/-! counts -/
structure Ct where
  l : Int
  o : Int
  b : Int
def isCount (l o b : Int) : Bool := inB 0 l 1152921504606846976 && inB 0 o l && inB (-1) b l
theorem isCount_bd {l o b : Int} (h : isCount l o b = true) : 0 ≤ l ∧ l ≤ 1152921504606846976 ∧ 0 ≤ o ∧ o ≤ l ∧ -1 ≤ b ∧ b ≤ l := by
  simp only [isCount, inB, Bool.and_eq_true, decide_eq_true_eq] at h
  omega
def newCt (n : Int) : Ct := if inB 0 n 1152921504606846976 = true then ⟨n, 0, -1⟩ else ⟨0, 0, 0⟩
def raiseCtOk (l o b n : Int) : Bool := isCount l o b && decide (l < n) && decide (n ≤ 1152921504606846976)
def raiseCt (l o b n : Int) : Ct := if raiseCtOk l o b n = true then ⟨n, o, -1⟩ else ⟨l, o, b⟩

/-! allowances -/
structure Aw where
  m : Int
  l : Int
  s : Int
  c : Int
def isAllow (m l s c : Int) : Bool := inB 0 m 1000 && inB m l 1152921504606846976 && inB 0 s l && inB 0 c s && decide (l ≤ c + m)
theorem isAllow_bd {m l s c : Int} (h : isAllow m l s c = true) : 0 ≤ m ∧ m ≤ 1000 ∧ m ≤ l ∧ l ≤ 1152921504606846976 ∧ 0 ≤ s ∧ s ≤ l ∧ 0 ≤ c ∧ c ≤ s ∧ l ≤ c + m := by
  simp only [isAllow, inB, Bool.and_eq_true, decide_eq_true_eq] at h
  omega
def newAw (n : Int) : Aw := if inB 0 n 1000 = true then ⟨n, n, 0, 0⟩ else ⟨0, 0, 0, 0⟩
def mustAw (m l s c : Int) : Bool := isAllow m l s c && decide (0 < m) && decide ((m + 1) / 2 ≤ c + m - l)

/-! windows -/
structure Wn where
  z : Int
  m : Int
  l : Int
  s : Int
  r : Int
  t : Int
def isWindow (z m l s r t : Int) : Bool := inB 1 m 4096 && inB 1 z m && inB 1 l 4611686018427387903 && inB 0 s l && inB 0 r s && decide (l ≤ r + z) && inB 0 t 1000000
theorem isWindow_bd {z m l s r t : Int} (h : isWindow z m l s r t = true) : 1 ≤ m ∧ m ≤ 4096 ∧ 1 ≤ z ∧ z ≤ m ∧ 1 ≤ l ∧ l ≤ 4611686018427387903 ∧ 0 ≤ s ∧ s ≤ l ∧ 0 ≤ r ∧ r ≤ s ∧ l ≤ r + z ∧ 0 ≤ t ∧ t ≤ 1000000 := by
  simp only [isWindow, inB, Bool.and_eq_true, decide_eq_true_eq] at h
  omega
theorem isWindow_mk {z m l s r t : Int} (h : 1 ≤ m ∧ m ≤ 4096 ∧ 1 ≤ z ∧ z ≤ m ∧ 1 ≤ l ∧ l ≤ 4611686018427387903 ∧ 0 ≤ s ∧ s ≤ l ∧ 0 ≤ r ∧ r ≤ s ∧ l ≤ r + z ∧ 0 ≤ t ∧ t ≤ 1000000) : isWindow z m l s r t = true := by
  simp only [isWindow, inB, Bool.and_eq_true, decide_eq_true_eq]
  omega
def newWnOk (z m : Int) : Bool := inB 1 m 4096 && inB 1 z m
def newWn (z m : Int) : Wn := if newWnOk z m = true then ⟨z, m, z, 0, 0, 0⟩ else ⟨0, 0, 0, 0, 0, 0⟩
def seeOk (z m l s r t n : Int) : Bool := isWindow z m l s r t && inB 0 n (l - s)
def seeWn (z m l s r t n : Int) : Wn := if seeOk z m l s r t n = true then ⟨z, m, l, s + n, r, t⟩ else ⟨z, m, l, s, r, t⟩
def readOk (z m l s r t n : Int) : Bool := isWindow z m l s r t && inB 0 n (s - r)
def readWn (z m l s r t n : Int) : Wn := if readOk z m l s r t n = true then ⟨z, m, l, s, r + n, t⟩ else ⟨z, m, l, s, r, t⟩
def mustWn (z m l s r t : Int) : Bool := isWindow z m l s r t && decide (l < 4611686018427387903) && decide ((z + 1) / 2 ≤ r + z - l)
theorem mustWn_is {z m l s r t : Int} (h : mustWn z m l s r t = true) : isWindow z m l s r t = true := by
  simp only [mustWn, Bool.and_eq_true] at h
  exact h.1.1
def leftWn (z m l s r t : Int) : Int := if isWindow z m l s r t = true then l - s else 0
def raiseWnOk (z m l s r t now trip : Int) : Bool := mustWn z m l s r t && inB t now 1000000 && inB 1 trip 1000
def raiseWnSize (z m t now trip : Int) : Int := if now - t < 2 * trip then min (2 * z) m else z
def raiseWn (z m l s r t now trip : Int) : Wn :=
  if raiseWnOk z m l s r t now trip = true then ⟨raiseWnSize z m t now trip, m, min (r + raiseWnSize z m t now trip) 4611686018427387903, s, r, now⟩ else ⟨z, m, l, s, r, t⟩

theorem len3 {l : List Int} {n : Nat} (h : l.length = n) (hn : n = 3) : ∃ a b c, l = [a, b, c] := by
  subst hn
  match l, h with
  | [a, b, c], _ => exact ⟨a, b, c, rfl⟩
theorem len4 {l : List Int} {n : Nat} (h : l.length = n) (hn : n = 4) : ∃ a b c d, l = [a, b, c, d] := by
  subst hn
  match l, h with
  | [a, b, c, d], _ => exact ⟨a, b, c, d, rfl⟩
theorem len6 {l : List Int} {n : Nat} (h : l.length = n) (hn : n = 6) : ∃ a b c d e f, l = [a, b, c, d, e, f] := by
  subst hn
  match l, h with
  | [a, b, c, d, e, f], _ => exact ⟨a, b, c, d, e, f, rfl⟩
end Go.Proofs.Ytjnbiacnhimkgaa
