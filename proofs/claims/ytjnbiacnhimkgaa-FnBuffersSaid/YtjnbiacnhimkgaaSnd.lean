/-
  Senders: what they hold (ReadSnd, OwnSnd), and contracts of the laws' helpers on them. Conditions: the slices can be read (for the marks: written).
-/
import Derived.Test.YtjnbiacnhimkgaaRgL
import Derived.Test.YtjnbiacnhimkgaaRing2
namespace Go.Proofs.Ytjnbiacnhimkgaa
open Go.ChangeShapes Go.WideShapes Go.ChangeAt Go.RowKit
set_option linter.unusedSimpArgs false
set_option linter.unusedVariables false
structure Ads where
  r : Option Addr
  p : Option Addr
  f : Option Addr
  k : Option Addr
structure Con where
  r : List Int
  p : List Rg
  f : List Rg
  k : List Rg
/-- The slices of a sender can be read. -/
structure ReadSnd (w : World) (a : Ads) (c : Con) : Prop where
  r : ReadS w a.r c.r
  p : ReadR w a.p c.p
  f : ReadR w a.f c.f
  k : ReadR w a.k c.k
def Ap (l u l' u' : Nat) : Prop := u ≤ l' ∨ u' ≤ l
/-- Likewise, in blocks from lo up to hi, apart from each other, which may be written. -/
def OwnSnd (lo hi : Nat) (w : World) (a : Ads) (c : Con) : Prop :=
  ∃ l1 u1 l2 u2 l3 u3 l4 u4 : Nat, ((lo ≤ l1 ∧ u1 ≤ hi) ∧ (lo ≤ l2 ∧ u2 ≤ hi) ∧ (lo ≤ l3 ∧ u3 ≤ hi) ∧ (lo ≤ l4 ∧ u4 ≤ hi)) ∧ (Ap l1 u1 l2 u2 ∧ Ap l1 u1 l3 u3 ∧ Ap l1 u1 l4 u4 ∧ Ap l2 u2 l3 u3 ∧ Ap l2 u2 l4 u4 ∧ Ap l3 u3 l4 u4) ∧ OwnS l1 u1 w a.r c.r ∧ OwnR l2 u2 w a.p c.p ∧ OwnR l3 u3 w a.f c.f ∧ OwnR l4 u4 w a.k c.k
theorem OwnSnd.read {lo hi : Nat} {w : World} {a : Ads} {c : Con} (h : OwnSnd lo hi w a c) : ReadSnd w a c := by
  obtain ⟨_, _, _, _, _, _, _, _, _, _, h1, h2, h3, h4⟩ := h
  exact ⟨h1.read, h2.read, h3.read, h4.read⟩
theorem ReadSnd.ext {w w' : World} {a : Ads} {c : Con} (h : ReadSnd w a c) (hx : Ext w w') : ReadSnd w' a c :=
  ⟨h.r.ext hx, h.p.ext hx, h.f.ext hx, h.k.ext hx⟩
theorem OwnSnd.chg {lo hi : Nat} {S : Nat → Prop} {w w' : World} {a : Ads} {c : Con} (h : OwnSnd lo hi w a c) (hx : Chg S w w') (hS : ∀ b, lo ≤ b → b < hi → ¬ S b) : OwnSnd lo hi w' a c := by
  obtain ⟨l1, u1, l2, u2, l3, u3, l4, u4, hb, ha, h1, h2, h3, h4⟩ := h
  exact ⟨l1, u1, l2, u2, l3, u3, l4, u4, hb, ha, h1.chg hx (fun b k1 k2 => hS b (by omega) (by omega)), h2.chg hx (fun b k1 k2 => hS b (by omega) (by omega)), h3.chg hx (fun b k1 k2 => hS b (by omega) (by omega)), h4.chg hx (fun b k1 k2 => hS b (by omega) (by omega))⟩
theorem OwnSnd.mono {lo hi lo' hi' : Nat} {w : World} {a : Ads} {c : Con} (h : OwnSnd lo hi w a c) (h1 : lo' ≤ lo) (h2 : hi ≤ hi') : OwnSnd lo' hi' w a c := by
  obtain ⟨l1, u1, l2, u2, l3, u3, l4, u4, hb, ha, h⟩ := h
  exact ⟨l1, u1, l2, u2, l3, u3, l4, u4, by omega, ha, h⟩
theorem same_extS {P : Program} {f : FuncId} {args : Array Value} {w : World} {v : Value} (h : Calls P f args w fun e w' => e = .returned v ∧ w = w') : Calls P f args w fun e w' => e = .returned v ∧ Ext w w' :=
  Calls.mono h fun _ _ ⟨h1, h2⟩ => ⟨h1, by subst h2; exact Ext.refl _⟩
/-- How many elements. -/
def conLen (c : Con) : Nat := c.r.length + (c.p.length + (c.f.length + c.k.length))
/-- How many marks. -/
def conMk (c : Con) : Nat := c.r.length + 2 * (c.p.length + (c.f.length + c.k.length))
/-- A new sender with these numbers, whose slices hold these lists. -/
def NewSndV (st z b e fi fk se co : Int) (xs : List Int) (ps fs ks : List Rg) (w : World) (en : Ending) (w' : World) : Prop :=
  ∃ (a1 a2 a3 a4 : Option Addr) (ca1 ca2 ca3 ca4 : Nat), en = .returned (.agg #[.int .i64 st, .int .i64 z, .int .i64 b, .int .i64 e, .slice a1 xs.length ca1, .slice a2 ps.length ca2, .slice a3 fs.length ca3, .slice a4 ks.length ca4, .int .i64 fi, .int .i64 fk, .int .i64 se, .int .i64 co]) ∧ OwnSnd w.heap.size w'.heap.size w' ⟨a1, a2, a3, a4⟩ ⟨xs, ps, fs, ks⟩ ∧ Ext w w'
/-- The marks. -/
def marksSnd (k : Int) (c : Con) : Con := ⟨marks k c.r.length, marksR (k + c.r.length) c.p.length, marksR (k + c.r.length + 2 * c.p.length) c.f.length, marksR (k + c.r.length + 2 * c.p.length + 2 * c.f.length) c.k.length⟩
def MarkedSnd (lo hi : Nat) (a : Ads) (k0 : Int) (c : Con) (w : World) (e : Ending) (w' : World) : Prop :=
  e = .returned (.int .i64 (k0 + conMk c)) ∧ OwnSnd lo hi w' a (marksSnd k0 c) ∧ Chg (fun b => lo ≤ b ∧ b < hi) w w'
end Go.Proofs.Ytjnbiacnhimkgaa
