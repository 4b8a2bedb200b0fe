/-
  Tables of regions with the filled frame reckoned once. Conditions: as for the tables.
-/
import Derived.Test.YtjhgcbchdnoleaaTable
namespace Go.Proofs.Ytjhgcbchdnoleaa
open Go.ChangeShapes Go.WideShapes Go.ChangeAt Go.RowKit
section
variable {P : Program} {ops : Array Oper} {Q : Exit → Go.Act → World → Prop}
theorem Each.imp {A B : Nat → Oper → Prop} (h : ∀ k o, A k o → B k o) : ∀ {l : List Oper} {k : Nat}, Each A k l → Each B k l
  | [], _, _ => trivial
  | _ :: _, _, hE => ⟨h _ _ hE.1, Each.imp h hE.2⟩
theorem wp_region_linesA {id : Nat} {a : Go.Act} {w : World} (Ls : List Line) (ds : List Nat) (A : (Nat → Value) → Go.Act) (hA : ∀ g, fillAt a ds g = A g) (hm : P.follows .mixedOrders = true)
    (hE : edgesBack ops.toList = true) (hB : dstsIn ops ds = true) (hS : ds.all (fun d => decide (d < a.tmps.size)) = true)
    (hAp : dstsApart (ops.toList.map (·.dst)) = true)
    (hob : Each (fun i o => ∀ g w', Ext w.drew w' → linesOf ops (linesT Ls) g w' o.after.toList → Stays P ops Ext (linesT Ls) i o (A g) w') 0 ops.toList)
    (hend : ∀ g w', Ext w.drew w' → allLines (linesT Ls) g w' 0 ops.toList → Q .normal (A g) w') : (Code.region id ops true).wp P Q a w :=
  wp_region_lines Ls ds hm hE hB hS hAp (Each.imp (fun i o h g w' h1 h2 => by rw [hA]; exact h g w' h1 h2) hob) (fun g w' h1 h2 => by rw [hA]; exact hend g w' h1 h2)
end
end Go.Proofs.Ytjhgcbchdnoleaa
