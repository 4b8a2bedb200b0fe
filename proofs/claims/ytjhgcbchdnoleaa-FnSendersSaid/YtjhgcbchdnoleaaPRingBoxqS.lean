/-
  Part of the proof: RingBox.
-/
import Derived.Test.YtjhgcbchdnoleaaPG2
import Derived.Test.YtjhgcbchdnoleaaPBoxqS
namespace Go.Proofs.Ytjhgcbchdnoleaa
section
def ringB (lo t : Nat) (ht : t ≠ 3) (z b e : Int) (xs : List Int) : BLine lo t :=
  ⟨fun v w => ∃ (ao : Option Addr) (cap l h : Nat), v = .agg #[.int .i64 z, .int .i64 b, .int .i64 e, .slice ao xs.length cap] ∧ OwnT 3 l h w ao xs ∧ lo ≤ l ∧ h ≤ w.heap.size,
   fun _ _ _ hg ⟨ao, cap, l, h, h1, h2, h3, h4⟩ => ⟨ao, cap, l, h, h1, h2.chg hg (fun b arr _ _ hb hS => by
     obtain ⟨_, arr', fr, h5⟩ := hS
     rw [hb] at h5
     injection h5 with h5
     injection h5 with _ h6 _
     exact ht h6.symm), h3, Nat.le_trans h4 hg.size⟩⟩
theorem store_ring {w : World} {B t : Nat} {a0 a1 a2 a3 v0 v1 v2 v3 : Value} (h : w.heap[B]? = some (.cells #[a0, a1, a2, a3] t (0, 0))) :
    ((((w.setCell ⟨B, 0, none⟩ v0).setCell ⟨B, 1, none⟩ v1).setCell ⟨B, 2, none⟩ v2).setCell ⟨B, 3, none⟩ v3).heap[B]? = some (.cells #[v0, v1, v2, v3] t (0, 0)) ∧
    Chg (fun k => k = B) w ((((w.setCell ⟨B, 0, none⟩ v0).setCell ⟨B, 1, none⟩ v1).setCell ⟨B, 2, none⟩ v2).setCell ⟨B, 3, none⟩ v3) := by
  have g0 : Chg (fun k => k = B) w (w.setCell ⟨B, 0, none⟩ v0) := Chg.set (S := fun k => k = B) (p := ⟨B, 0, none⟩) (Or.inl (Eq.refl B)) (Chg.refl (fun k => k = B) w) _
  have g1 : Chg (fun k => k = B) w ((w.setCell ⟨B, 0, none⟩ v0).setCell ⟨B, 1, none⟩ v1) := Chg.set (S := fun k => k = B) (p := ⟨B, 1, none⟩) (Or.inl (Eq.refl B)) g0 _
  have g2 : Chg (fun k => k = B) w (((w.setCell ⟨B, 0, none⟩ v0).setCell ⟨B, 1, none⟩ v1).setCell ⟨B, 2, none⟩ v2) := Chg.set (S := fun k => k = B) (p := ⟨B, 2, none⟩) (Or.inl (Eq.refl B)) g1 _
  refine ⟨?_, Chg.set (S := fun k => k = B) (p := ⟨B, 3, none⟩) (Or.inl (Eq.refl B)) g2 _⟩
  have h0 := block_set (i := 0) h v0
  have h1 := block_set (i := 1) h0 v1
  have h2 := block_set (i := 2) h1 v2
  have h3 := block_set (i := 3) h2 v3
  exact h3
/-- What an own row is, as one block. -/
theorem own_one {e l h B t lo : Nat} {w : World} {ao : Option Addr} {xs : List Int} {arr : Array Value} (ho : OwnT e l h w ao xs) (hl : lo ≤ l) (hB : w.heap[B]? = some (.cells arr t (0, 0))) (hne : t ≠ e) (hlo : lo ≤ B) :
    ∃ l2 h2 : Nat, OwnS l2 h2 w ao xs ∧ lo ≤ l2 ∧ h2 ≤ w.heap.size ∧ (B < l2 ∨ h2 ≤ B) := by
  rcases ho with rfl | ⟨b, off, ar, h1, h2, h3, h4, h5⟩
  · exact ⟨lo, lo, Or.inl rfl, Nat.le_refl _, Nat.le_trans hlo (Nat.le_of_lt (lt_of_block hB)), Or.inr hlo⟩
  · refine ⟨b, b + 1, OwnT.own (e := e) (Or.inr ⟨b, off, ar, h1, Nat.le_refl _, Nat.lt_succ_self _, h4, h5⟩), Nat.le_trans hl h2, lt_of_block h4, ?_⟩
    have : b ≠ B := fun hb => by
      subst hb
      rw [hB] at h4
      injection h4 with h4
      injection h4 with _ h6 _
      exact hne h6
    omega
end
end Go.Proofs.Ytjhgcbchdnoleaa
