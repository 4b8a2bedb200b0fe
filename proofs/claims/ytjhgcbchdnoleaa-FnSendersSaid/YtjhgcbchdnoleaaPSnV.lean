/-
  Part of the proof: SnV.
-/
import Derived.Test.YtjhgcbchdnoleaaPG5
import Derived.Test.YtjhgcbchdnoleaaPG6
namespace Go.Proofs.Ytjhgcbchdnoleaa
section
open Go.ChangeShapes Go.WideShapes Go.ChangeAt Go.RowKit
set_option linter.unusedSimpArgs false
set_option linter.unusedVariables false
/-- A row of ranges of the call's own, in blocks from lo up to hi. -/
def OwnW (lo hi : Nat) (w : World) (ao : Option Addr) (cap : Nat) (rs : List Rg) : Prop :=
  w.ownsRow lo 61 2 (.slice ao rs.length cap) rs.length (rgCells rs) ∧ ∀ k, (Value.slice ao rs.length cap).ownBlock = some k → k < hi
theorem OwnW.own {lo hi : Nat} {w : World} {ao : Option Addr} {cap : Nat} {rs : List Rg} (h : OwnW lo hi w ao cap rs) : OwnR lo hi w ao rs := by
  obtain ⟨h1, h2⟩ := h
  have h3 := own_ranges' h1
  rcases h3 with h3 | ⟨b, off, e, k1, k2, k3⟩
  · exact Or.inl h3
  · subst e
    exact Or.inr ⟨b, off, rfl, k1, h2 b rfl, k3⟩
theorem OwnW.chg {lo hi : Nat} {S : Nat → Prop} {w w' : World} {ao : Option Addr} {cap : Nat} {rs : List Rg} (h : OwnW lo hi w ao cap rs) (hx : Chg S w w') (hS : ∀ b, lo ≤ b → b < hi → ¬ S b) : OwnW lo hi w' ao cap rs :=
  ⟨ownsBlk h.1 hx (fun k hk => hS k (h.1.lt k hk).1 (h.2 k hk)), h.2⟩
theorem OwnW.mono {lo hi lo' hi' : Nat} {w : World} {ao : Option Addr} {cap : Nat} {rs : List Rg} (h : OwnW lo hi w ao cap rs) (h1 : lo' ≤ lo) (h2 : hi ≤ hi') : OwnW lo' hi' w ao cap rs :=
  ⟨ownsBase h.1 h1, fun k hk => Nat.lt_of_lt_of_le (h.2 k hk) h2⟩
theorem OwnW.of {lo : Nat} {w : World} {ao : Option Addr} {cap : Nat} {rs : List Rg} (h : w.ownsRow lo 61 2 (.slice ao rs.length cap) rs.length (rgCells rs)) : OwnW lo w.heap.size w ao cap rs :=
  ⟨h, fun k hk => (h.lt k hk).2⟩
theorem OwnW.nil (lo : Nat) (w : World) : OwnW lo lo w none 0 [] := ⟨World.ownsRow_nil w lo _ 2, fun k hk => by simp [Value.ownBlock] at hk⟩
/-- The slices of a sender, in blocks from lo up to hi, apart from each other, which may be written; to the first set may be appended. -/
def OwnSnV (lo hi : Nat) (w : World) (a : Ads) (cp : Nat) (c : Con) : Prop :=
  ∃ l1 u1 l2 u2 l3 u3 l4 u4 : Nat, ((lo ≤ l1 ∧ u1 ≤ hi) ∧ (lo ≤ l2 ∧ u2 ≤ hi) ∧ (lo ≤ l3 ∧ u3 ≤ hi) ∧ (lo ≤ l4 ∧ u4 ≤ hi)) ∧ (Ap l1 u1 l2 u2 ∧ Ap l1 u1 l3 u3 ∧ Ap l1 u1 l4 u4 ∧ Ap l2 u2 l3 u3 ∧ Ap l2 u2 l4 u4 ∧ Ap l3 u3 l4 u4) ∧ OwnS l1 u1 w a.r c.r ∧ OwnW l2 u2 w a.p cp c.p ∧ OwnR l3 u3 w a.f c.f ∧ OwnR l4 u4 w a.k c.k
theorem OwnSnV.own {lo hi cp : Nat} {w : World} {a : Ads} {c : Con} (h : OwnSnV lo hi w a cp c) : OwnSnd lo hi w a c := by
  obtain ⟨l1, u1, l2, u2, l3, u3, l4, u4, hb, ha, h1, h2, h3, h4⟩ := h
  exact ⟨l1, u1, l2, u2, l3, u3, l4, u4, hb, ha, h1, h2.own, h3, h4⟩
theorem OwnSnV.chg {lo hi cp : Nat} {S : Nat → Prop} {w w' : World} {a : Ads} {c : Con} (h : OwnSnV lo hi w a cp c) (hx : Chg S w w') (hS : ∀ b, lo ≤ b → b < hi → ¬ S b) : OwnSnV lo hi w' a cp c := by
  obtain ⟨l1, u1, l2, u2, l3, u3, l4, u4, hb, ha, h1, h2, h3, h4⟩ := h
  exact ⟨l1, u1, l2, u2, l3, u3, l4, u4, hb, ha, h1.chg hx (fun b k1 k2 => hS b (by omega) (by omega)), h2.chg hx (fun b k1 k2 => hS b (by omega) (by omega)), h3.chg hx (fun b k1 k2 => hS b (by omega) (by omega)), h4.chg hx (fun b k1 k2 => hS b (by omega) (by omega))⟩
theorem OwnSnV.mono {lo hi lo' hi' cp : Nat} {w : World} {a : Ads} {c : Con} (h : OwnSnV lo hi w a cp c) (h1 : lo' ≤ lo) (h2 : hi ≤ hi') : OwnSnV lo' hi' w a cp c := by
  obtain ⟨l1, u1, l2, u2, l3, u3, l4, u4, hb, ha, h⟩ := h
  exact ⟨l1, u1, l2, u2, l3, u3, l4, u4, by omega, ha, h⟩
theorem OwnSnV.read {lo hi cp : Nat} {w : World} {a : Ads} {c : Con} (h : OwnSnV lo hi w a cp c) : ReadSnd w a c := h.own.read
/-- The four slices one behind the other. -/
theorem OwnSnV.mk {lo hi cp l1 u1 l2 u2 l3 u3 l4 u4 : Nat} {w : World} {a : Ads} {c : Con} (h1 : OwnS l1 u1 w a.r c.r) (h2 : OwnW l2 u2 w a.p cp c.p) (h3 : OwnR l3 u3 w a.f c.f) (h4 : OwnR l4 u4 w a.k c.k)
    (b0 : lo ≤ l1) (b1 : u1 ≤ l2) (b2 : u2 ≤ l3) (b3 : u3 ≤ l4) (b4 : u4 ≤ hi) (q1 : l1 ≤ u1) (q2 : l2 ≤ u2) (q3 : l3 ≤ u3) (q4 : l4 ≤ u4) : OwnSnV lo hi w a cp c :=
  ⟨l1, u1, l2, u2, l3, u3, l4, u4, by omega, ⟨Or.inl (by omega), Or.inl (by omega), Or.inl (by omega), Or.inl (by omega), Or.inl (by omega), Or.inl (by omega)⟩, h1, h2, h3, h4⟩
/-- A new sender of the value s. -/
def NewSn (s : Sn) (w : World) (en : Ending) (w' : World) : Prop :=
  ∃ (a1 a2 a3 a4 : Option Addr) (ca1 ca2 ca3 ca4 : Nat), en = .returned (.agg #[.int .i64 s.st, .int .i64 s.z, .int .i64 s.b, .int .i64 s.e, .slice a1 s.xs.length ca1, .slice a2 s.p.length ca2, .slice a3 s.f.length ca3, .slice a4 s.k.length ca4, .int .i64 s.fi, .int .i64 s.fk, .int .i64 s.se, .int .i64 s.co]) ∧ OwnSnV w.heap.size w'.heap.size w' ⟨a1, a2, a3, a4⟩ ca2 ⟨s.xs, s.p, s.f, s.k⟩ ∧ Ext w w'
/-- A new sender of the value s, and a second value. -/
def SnRes (s : Sn) (v : Value) (w : World) (en : Ending) (w' : World) : Prop :=
  ∃ (a1 a2 a3 a4 : Option Addr) (ca1 ca2 ca3 ca4 : Nat), en = .returned (.tuple #[.agg #[.int .i64 s.st, .int .i64 s.z, .int .i64 s.b, .int .i64 s.e, .slice a1 s.xs.length ca1, .slice a2 s.p.length ca2, .slice a3 s.f.length ca3, .slice a4 s.k.length ca4, .int .i64 s.fi, .int .i64 s.fk, .int .i64 s.se, .int .i64 s.co], v]) ∧ OwnSnV w.heap.size w'.heap.size w' ⟨a1, a2, a3, a4⟩ ca2 ⟨s.xs, s.p, s.f, s.k⟩ ∧ Ext w w'
set_option maxHeartbeats 2000000 in
set_option maxRecDepth 100000 in
theorem l9Copy_any (s : Sn) (a : Ads) (c1 c2 c3 c4 : Nat) (w : World) (hx : ReadSnd w a ⟨s.xs, s.p, s.f, s.k⟩) (hl : s.xs.length ≤ 1048576) (hsum : s.p.length + s.f.length + s.k.length ≤ 1048576) :
    Calls Try.prog 52 #[.agg #[.int .i64 s.st, .int .i64 s.z, .int .i64 s.b, .int .i64 s.e, .slice a.r s.xs.length c1, .slice a.p s.p.length c2, .slice a.f s.f.length c3, .slice a.k s.k.length c4, .int .i64 s.fi, .int .i64 s.fk, .int .i64 s.se, .int .i64 s.co]] w (NewSn s w) := by
  obtain ⟨st, z, b, e, xs, p, f, k, fi, fk, se, co⟩ := s
  obtain ⟨ar, ap, af, ak⟩ := a
  dsimp only at *
  have hx' := hide hx
  clear hx
  go_enter Try.func52, Try.ntmps52
  go_wp2_with fail
  refine wp_region_flowE 22 [(0, 1), (1, 1), (2, 1), (3, 1), (5, 1), (6, 1), (8, 1), (9, 1), (11, 1), (12, 1), (14, 1), (15, 1), (16, 1), (17, 1), (18, 1), (19, 1), (20, 1), (21, 1), (4, 0), (7, 0), (10, 0), (13, 0)] (by kernel_rfl) (by kernel_rfl) ?_
  (refine wpF_pure (v := ?_) rfl rfl (by rfl) ?_ ?_; rotate_left; (focus (intro ws hws; go_simp; (try with_reducible rfl); done)))
  try simp only [nrm]
  (refine wpF_pure (v := ?_) rfl rfl (by rfl) ?_ ?_; rotate_left; (focus (intro ws hws; obtain ⟨q0, p0⟩ := hws.row (k := w.heap.size) xpf; go_simp; (try with_reducible rfl); done)))
  try simp only [nrm]
  (refine wpF_pure (v := ?_) rfl rfl (by rfl) ?_ ?_; rotate_left; (focus (intro ws hws; go_simp; (try with_reducible rfl); done)))
  try simp only [nrm]
  (refine wpF_pure (v := ?_) rfl rfl (by rfl) ?_ ?_; rotate_left; (focus (intro ws hws; obtain ⟨q0, p0⟩ := hws.row (k := w.heap.size) xpf; go_simp; (try with_reducible rfl); done)))
  try simp only [nrm]
  (refine wpF_pure (v := ?_) rfl rfl (by rfl) ?_ ?_; rotate_left; (focus (intro ws hws; go_simp; (try with_reducible rfl); done)))
  try simp only [nrm]
  (refine wpF_pure (v := ?_) rfl rfl (by rfl) ?_ ?_; rotate_left; (focus (intro ws hws; obtain ⟨q0, p0⟩ := hws.row (k := w.heap.size) xpf; go_simp; (try with_reducible rfl); done)))
  try simp only [nrm]
  (refine wpF_pure (v := ?_) rfl rfl (by rfl) ?_ ?_; rotate_left; (focus (intro ws hws; go_simp; (try with_reducible rfl); done)))
  try simp only [nrm]
  (refine wpF_pure (v := ?_) rfl rfl (by rfl) ?_ ?_; rotate_left; (focus (intro ws hws; obtain ⟨q0, p0⟩ := hws.row (k := w.heap.size) xpf; go_simp; (try with_reducible rfl); done)))
  try simp only [nrm]
  (refine wpF_pure (v := ?_) rfl rfl (by rfl) ?_ ?_; rotate_left; (focus (intro ws hws; go_simp; (try with_reducible rfl); done)))
  try simp only [nrm]
  (refine wpF_pure (v := ?_) rfl rfl (by rfl) ?_ ?_; rotate_left; (focus (intro ws hws; obtain ⟨q0, p0⟩ := hws.row (k := w.heap.size) xpf; go_simp; (try with_reducible rfl); done)))
  try simp only [nrm]
  (refine wpF_pure (v := ?_) rfl rfl (by rfl) ?_ ?_; rotate_left; (focus (intro ws hws; go_simp; (try with_reducible rfl); done)))
  try simp only [nrm]
  (refine wpF_pure (v := ?_) rfl rfl (by rfl) ?_ ?_; rotate_left; (focus (intro ws hws; obtain ⟨q0, p0⟩ := hws.row (k := w.heap.size) xpf; go_simp; (try with_reducible rfl); done)))
  try simp only [nrm]
  (refine wpF_pure (v := ?_) rfl rfl (by rfl) ?_ ?_; rotate_left; (focus (intro ws hws; go_simp; (try with_reducible rfl); done)))
  try simp only [nrm]
  (refine wpF_pure (v := ?_) rfl rfl (by rfl) ?_ ?_; rotate_left; (focus (intro ws hws; obtain ⟨q0, p0⟩ := hws.row (k := w.heap.size) xpf; go_simp; (try with_reducible rfl); done)))
  try simp only [nrm]
  (refine wpF_pure (v := ?_) rfl rfl (by rfl) ?_ ?_; rotate_left; (focus (intro ws hws; go_simp; (try with_reducible rfl); done)))
  try simp only [nrm]
  (refine wpF_pure (v := ?_) rfl rfl (by rfl) ?_ ?_; rotate_left; (focus (intro ws hws; obtain ⟨q0, p0⟩ := hws.row (k := w.heap.size) xpf; go_simp; (try with_reducible rfl); done)))
  try simp only [nrm]
  (refine wpF_pure (v := ?_) rfl rfl (by rfl) ?_ ?_; rotate_left; (focus (intro ws hws; go_simp; (try with_reducible rfl); done)))
  try simp only [nrm]
  (refine wpF_pure (v := ?_) rfl rfl (by rfl) ?_ ?_; rotate_left; (focus (intro ws hws; obtain ⟨q0, p0⟩ := hws.row (k := w.heap.size) xpf; go_simp; (try with_reducible rfl); done)))
  try simp only [nrm]
  (refine wpF_call 109 ?_ rfl rfl (by rfl) ?_ ?_; rotate_left; (focus (go_simp; (try with_reducible rfl); done)))
  refine (l8Copy_any z b e ar xs.length c1 xs _ (hx'.out.r.ext Ext.go) rfl (by omega)).mono ?_
  rintro en w1 ⟨d1, cd1, rfl, o1, hw1⟩
  refine ⟨_, rfl, hw1, ?_⟩
  try simp only [nrm]
  have zw1 := hw1.size
  (try simp at zw1)
  have kw1_0 := hw1.more (k := w.heap.size) xpf
  obtain ⟨cw1_0, fw1_0⟩ := hw1.row (k := w.heap.size) xpf
  have kw1_1 := hw1.more (k := w.heap.size + 1) xpf
  obtain ⟨cw1_1, fw1_1⟩ := hw1.row (k := w.heap.size + 1) xpf
  (try simp only [World.size_alloc, World.size_drew, World.size_setCell] at o1)
  replace o1 := hide o1
  (refine wpF_call 110 ?_ rfl rfl (by rfl) ?_ ?_; rotate_left; (focus (go_simp; (try with_reducible rfl); done)))
  refine (copyW_spec ap p.length c2 p _ (hx'.out.p.ext Ext.go) rfl (by omega)).mono ?_
  rintro en w2 ⟨d2, cd2, rfl, o2, hw2⟩
  refine ⟨_, rfl, hw2, ?_⟩
  try simp only [nrm]
  have zw2 := hw2.size
  (try simp at zw2)
  have kw2_0 := hw2.more (k := w.heap.size) xpf
  obtain ⟨cw2_0, fw2_0⟩ := hw2.row (k := w.heap.size) xpf
  have kw2_1 := hw2.more (k := w.heap.size + 1) xpf
  obtain ⟨cw2_1, fw2_1⟩ := hw2.row (k := w.heap.size + 1) xpf
  replace o2 := OwnW.of o2
  (try simp only [World.size_alloc, World.size_drew, World.size_setCell] at o2)
  replace o2 := hide o2
  (refine wpF_call 110 ?_ rfl rfl (by rfl) ?_ ?_; rotate_left; (focus (go_simp; (try with_reducible rfl); done)))
  refine (copyW_spec af f.length c3 f _ (hx'.out.f.ext Ext.go) rfl (by omega)).mono ?_
  rintro en w3 ⟨d3, cd3, rfl, o3, hw3⟩
  refine ⟨_, rfl, hw3, ?_⟩
  try simp only [nrm]
  have zw3 := hw3.size
  (try simp at zw3)
  have kw3_0 := hw3.more (k := w.heap.size) xpf
  obtain ⟨cw3_0, fw3_0⟩ := hw3.row (k := w.heap.size) xpf
  have kw3_1 := hw3.more (k := w.heap.size + 1) xpf
  obtain ⟨cw3_1, fw3_1⟩ := hw3.row (k := w.heap.size + 1) xpf
  replace o3 := OwnW.of o3
  (try simp only [World.size_alloc, World.size_drew, World.size_setCell] at o3)
  replace o3 := hide o3
  (refine wpF_call 110 ?_ rfl rfl (by rfl) ?_ ?_; rotate_left; (focus (go_simp; (try with_reducible rfl); done)))
  refine (copyW_spec ak k.length c4 k _ (hx'.out.k.ext Ext.go) rfl (by omega)).mono ?_
  rintro en w4 ⟨d4, cd4, rfl, o4, hw4⟩
  refine ⟨_, rfl, hw4, ?_⟩
  try simp only [nrm]
  have zw4 := hw4.size
  (try simp at zw4)
  have kw4_0 := hw4.more (k := w.heap.size) xpf
  obtain ⟨cw4_0, fw4_0⟩ := hw4.row (k := w.heap.size) xpf
  have kw4_1 := hw4.more (k := w.heap.size + 1) xpf
  obtain ⟨cw4_1, fw4_1⟩ := hw4.row (k := w.heap.size + 1) xpf
  replace o4 := OwnW.of o4
  (try simp only [World.size_alloc, World.size_drew, World.size_setCell] at o4)
  replace o4 := hide o4
  refine wpF_done rfl ?_
  simp only [List.drop_succ_cons, List.drop_zero]
  go_wp2
  refine bodyPost_ret (v := .agg #[.int .i64 st, .int .i64 z, .int .i64 b, .int .i64 e, .slice d1 xs.length cd1, .slice d2 p.length cd2, .slice d3 f.length cd3, .slice d4 k.length cd4, .int .i64 fi, .int .i64 fk, .int .i64 se, .int .i64 co]) (by simp [results, Try.results52, go_sem, *]) rfl ⟨d1, d2, d3, d4, cd1, cd2, cd3, cd4, rfl, ?_, ?_⟩
  · refine OwnSnV.mk (OwnS.chg (S := fun b => b = w.heap.size ∨ b = w.heap.size + 1) o1.out (by repeat (first | with_reducible exact Chg.refl _ _ | with_reducible refine Chg.alloc ?_ _ | with_reducible refine Chg.drew ?_ | ((with_reducible refine Chg.set ?_ ?_ _); (focus (first | (left; (try dsimp only); simp; done) | (left; (try dsimp only); simp; omega) | (left; (try dsimp only); omega) | (right; simp; done) | (right; simp; omega) | (right; omega)))) | with_reducible refine Chg.trans ?_ (Ext.chg hw4 _) | with_reducible refine Chg.trans ?_ (Ext.chg hw3 _) | with_reducible refine Chg.trans ?_ (Ext.chg hw2 _))) (fun b h1 h2 h3 => by (try dsimp only at h3); omega)) (OwnW.chg (S := fun b => b = w.heap.size ∨ b = w.heap.size + 1) o2.out (by repeat (first | with_reducible exact Chg.refl _ _ | with_reducible refine Chg.alloc ?_ _ | with_reducible refine Chg.drew ?_ | ((with_reducible refine Chg.set ?_ ?_ _); (focus (first | (left; (try dsimp only); simp; done) | (left; (try dsimp only); simp; omega) | (left; (try dsimp only); omega) | (right; simp; done) | (right; simp; omega) | (right; omega)))) | with_reducible refine Chg.trans ?_ (Ext.chg hw4 _) | with_reducible refine Chg.trans ?_ (Ext.chg hw3 _))) (fun b h1 h2 h3 => by (try dsimp only at h3); omega)) (OwnW.chg (S := fun b => b = w.heap.size ∨ b = w.heap.size + 1) o3.out (by repeat (first | with_reducible exact Chg.refl _ _ | with_reducible refine Chg.alloc ?_ _ | with_reducible refine Chg.drew ?_ | ((with_reducible refine Chg.set ?_ ?_ _); (focus (first | (left; (try dsimp only); simp; done) | (left; (try dsimp only); simp; omega) | (left; (try dsimp only); omega) | (right; simp; done) | (right; simp; omega) | (right; omega)))) | with_reducible refine Chg.trans ?_ (Ext.chg hw4 _))) (fun b h1 h2 h3 => by (try dsimp only at h3); omega)).own (OwnW.chg (S := fun b => b = w.heap.size ∨ b = w.heap.size + 1) o4.out (by repeat (first | with_reducible exact Chg.refl _ _ | with_reducible refine Chg.alloc ?_ _ | with_reducible refine Chg.drew ?_ | ((with_reducible refine Chg.set ?_ ?_ _); (focus (first | (left; (try dsimp only); simp; done) | (left; (try dsimp only); simp; omega) | (left; (try dsimp only); omega) | (right; simp; done) | (right; simp; omega) | (right; omega)))))) (fun b h1 h2 h3 => by (try dsimp only at h3); omega)).own ?_ ?_ ?_ ?_ ?_ ?_ ?_ ?_ ?_ <;> (first | omega | (simp; done) | (simp; omega))
  · exact Ext.go
set_option maxHeartbeats 4000000 in
set_option maxRecDepth 100000 in
theorem copySender_any (s : Sn) (a : Ads) (c1 c2 c3 c4 : Nat) (w : World) (hx : ReadSnd w a ⟨s.xs, s.p, s.f, s.k⟩) (hl : s.xs.length ≤ 1048576) (hsum : s.p.length + s.f.length + s.k.length ≤ 1048576) :
    Calls Try.prog 55 #[.agg #[.int .i64 s.st, .int .i64 s.z, .int .i64 s.b, .int .i64 s.e, .slice a.r s.xs.length c1, .slice a.p s.p.length c2, .slice a.f s.f.length c3, .slice a.k s.k.length c4, .int .i64 s.fi, .int .i64 s.fk, .int .i64 s.se, .int .i64 s.co]] w (NewSn s w) := by
  obtain ⟨st, z, b, e, xs, p, f, k, fi, fk, se, co⟩ := s
  obtain ⟨ar, ap, af, ak⟩ := a
  dsimp only at *
  have hx' := hide hx
  clear hx
  go_enter Try.func55, Try.ntmps55
  go_wp2_with fail
  refine (copyRing_any z b e ar xs.length c1 xs _ (hx'.out.r.ext Ext.go) rfl (by omega)).mono ?_
  rintro en w1 ⟨d1, cd1, rfl, o1, hw1⟩
  have zw1 := hw1.size
  (try simp at zw1)
  have kw1_0 := hw1.more (k := w.heap.size) xpf
  obtain ⟨cw1_0, fw1_0⟩ := hw1.row (k := w.heap.size) xpf
  have kw1_1 := hw1.more (k := w.heap.size + 1) xpf
  obtain ⟨cw1_1, fw1_1⟩ := hw1.row (k := w.heap.size + 1) xpf
  (try simp only [World.size_alloc, World.size_drew, World.size_setCell] at o1)
  replace o1 := hide o1
  go_wp2_with fail
  refine wp_region_flowE 10 [(0, 1), (1, 1), (3, 1), (4, 1), (6, 1), (7, 1), (2, 0), (9, 1), (5, 0), (8, 0)] (by kernel_rfl) (by kernel_rfl) ?_
  (refine wpF_pure (v := ?_) rfl rfl (by rfl) ?_ ?_; rotate_left; (focus (intro ws hws; go_simp; (try with_reducible rfl); done)))
  try simp only [nrm]
  (refine wpF_pure (v := ?_) rfl rfl (by rfl) ?_ ?_; rotate_left; (focus (intro ws hws; obtain ⟨q0, p0⟩ := hws.row (k := w.heap.size) xpf; go_simp; (try with_reducible rfl); done)))
  try simp only [nrm]
  (refine wpF_pure (v := ?_) rfl rfl (by rfl) ?_ ?_; rotate_left; (focus (intro ws hws; go_simp; (try with_reducible rfl); done)))
  try simp only [nrm]
  (refine wpF_pure (v := ?_) rfl rfl (by rfl) ?_ ?_; rotate_left; (focus (intro ws hws; obtain ⟨q0, p0⟩ := hws.row (k := w.heap.size) xpf; go_simp; (try with_reducible rfl); done)))
  try simp only [nrm]
  (refine wpF_pure (v := ?_) rfl rfl (by rfl) ?_ ?_; rotate_left; (focus (intro ws hws; go_simp; (try with_reducible rfl); done)))
  try simp only [nrm]
  (refine wpF_pure (v := ?_) rfl rfl (by rfl) ?_ ?_; rotate_left; (focus (intro ws hws; obtain ⟨q0, p0⟩ := hws.row (k := w.heap.size) xpf; go_simp; (try with_reducible rfl); done)))
  try simp only [nrm]
  (refine wpF_call 114 ?_ rfl rfl (by rfl) ?_ ?_; rotate_left; (focus (go_simp; (try with_reducible rfl); done)))
  refine (copyW_impl ap p.length c2 p _ (hx'.out.p.ext Ext.go) rfl (by omega)).mono ?_
  rintro en w2 ⟨d2, cd2, rfl, o2, hw2⟩
  refine ⟨_, rfl, hw2, ?_⟩
  try simp only [nrm]
  have zw2 := hw2.size
  (try simp at zw2)
  have kw2_0 := hw2.more (k := w.heap.size) xpf
  obtain ⟨cw2_0, fw2_0⟩ := hw2.row (k := w.heap.size) xpf
  have kw2_1 := hw2.more (k := w.heap.size + 1) xpf
  obtain ⟨cw2_1, fw2_1⟩ := hw2.row (k := w.heap.size + 1) xpf
  replace o2 := OwnW.of o2
  (try simp only [World.size_alloc, World.size_drew, World.size_setCell] at o2)
  replace o2 := hide o2
  (refine wpF_pure (v := ?_) rfl rfl (by rfl) ?_ ?_; rotate_left; (focus (intro ws hws; go_simp; (try with_reducible rfl); done)))
  try simp only [nrm]
  (refine wpF_call 114 ?_ rfl rfl (by rfl) ?_ ?_; rotate_left; (focus (go_simp; (try with_reducible rfl); done)))
  refine (copyW_impl af f.length c3 f _ (hx'.out.f.ext Ext.go) rfl (by omega)).mono ?_
  rintro en w3 ⟨d3, cd3, rfl, o3, hw3⟩
  refine ⟨_, rfl, hw3, ?_⟩
  try simp only [nrm]
  have zw3 := hw3.size
  (try simp at zw3)
  have kw3_0 := hw3.more (k := w.heap.size) xpf
  obtain ⟨cw3_0, fw3_0⟩ := hw3.row (k := w.heap.size) xpf
  have kw3_1 := hw3.more (k := w.heap.size + 1) xpf
  obtain ⟨cw3_1, fw3_1⟩ := hw3.row (k := w.heap.size + 1) xpf
  replace o3 := OwnW.of o3
  (try simp only [World.size_alloc, World.size_drew, World.size_setCell] at o3)
  replace o3 := hide o3
  (refine wpF_call 114 ?_ rfl rfl (by rfl) ?_ ?_; rotate_left; (focus (go_simp; (try with_reducible rfl); done)))
  refine (copyW_impl ak k.length c4 k _ (hx'.out.k.ext Ext.go) rfl (by omega)).mono ?_
  rintro en w4 ⟨d4, cd4, rfl, o4, hw4⟩
  refine ⟨_, rfl, hw4, ?_⟩
  try simp only [nrm]
  have zw4 := hw4.size
  (try simp at zw4)
  have kw4_0 := hw4.more (k := w.heap.size) xpf
  obtain ⟨cw4_0, fw4_0⟩ := hw4.row (k := w.heap.size) xpf
  have kw4_1 := hw4.more (k := w.heap.size + 1) xpf
  obtain ⟨cw4_1, fw4_1⟩ := hw4.row (k := w.heap.size + 1) xpf
  replace o4 := OwnW.of o4
  (try simp only [World.size_alloc, World.size_drew, World.size_setCell] at o4)
  replace o4 := hide o4
  refine wpF_done rfl ?_
  simp only [List.drop_succ_cons, List.drop_zero]
  go_wp2
  refine bodyPost_ret (v := .agg #[.int .i64 st, .int .i64 z, .int .i64 b, .int .i64 e, .slice d1 xs.length cd1, .slice d2 p.length cd2, .slice d3 f.length cd3, .slice d4 k.length cd4, .int .i64 fi, .int .i64 fk, .int .i64 se, .int .i64 co]) (by simp [results, Try.results55, go_sem, *]) rfl ⟨d1, d2, d3, d4, cd1, cd2, cd3, cd4, rfl, ?_, ?_⟩
  · refine OwnSnV.mk (OwnS.chg (S := fun b => b = w.heap.size ∨ b = w.heap.size + 1) o1.out (by repeat (first | with_reducible exact Chg.refl _ _ | with_reducible refine Chg.alloc ?_ _ | with_reducible refine Chg.drew ?_ | ((with_reducible refine Chg.set ?_ ?_ _); (focus (first | (left; (try dsimp only); simp; done) | (left; (try dsimp only); simp; omega) | (left; (try dsimp only); omega) | (right; simp; done) | (right; simp; omega) | (right; omega)))) | with_reducible refine Chg.trans ?_ (Ext.chg hw4 _) | with_reducible refine Chg.trans ?_ (Ext.chg hw3 _) | with_reducible refine Chg.trans ?_ (Ext.chg hw2 _))) (fun b h1 h2 h3 => by (try dsimp only at h3); omega)) (OwnW.chg (S := fun b => b = w.heap.size ∨ b = w.heap.size + 1) o2.out (by repeat (first | with_reducible exact Chg.refl _ _ | with_reducible refine Chg.alloc ?_ _ | with_reducible refine Chg.drew ?_ | ((with_reducible refine Chg.set ?_ ?_ _); (focus (first | (left; (try dsimp only); simp; done) | (left; (try dsimp only); simp; omega) | (left; (try dsimp only); omega) | (right; simp; done) | (right; simp; omega) | (right; omega)))) | with_reducible refine Chg.trans ?_ (Ext.chg hw4 _) | with_reducible refine Chg.trans ?_ (Ext.chg hw3 _))) (fun b h1 h2 h3 => by (try dsimp only at h3); omega)) (OwnW.chg (S := fun b => b = w.heap.size ∨ b = w.heap.size + 1) o3.out (by repeat (first | with_reducible exact Chg.refl _ _ | with_reducible refine Chg.alloc ?_ _ | with_reducible refine Chg.drew ?_ | ((with_reducible refine Chg.set ?_ ?_ _); (focus (first | (left; (try dsimp only); simp; done) | (left; (try dsimp only); simp; omega) | (left; (try dsimp only); omega) | (right; simp; done) | (right; simp; omega) | (right; omega)))) | with_reducible refine Chg.trans ?_ (Ext.chg hw4 _))) (fun b h1 h2 h3 => by (try dsimp only at h3); omega)).own (OwnW.chg (S := fun b => b = w.heap.size ∨ b = w.heap.size + 1) o4.out (by repeat (first | with_reducible exact Chg.refl _ _ | with_reducible refine Chg.alloc ?_ _ | with_reducible refine Chg.drew ?_ | ((with_reducible refine Chg.set ?_ ?_ _); (focus (first | (left; (try dsimp only); simp; done) | (left; (try dsimp only); simp; omega) | (left; (try dsimp only); omega) | (right; simp; done) | (right; simp; omega) | (right; omega)))))) (fun b h1 h2 h3 => by (try dsimp only at h3); omega)).own ?_ ?_ ?_ ?_ ?_ ?_ ?_ ?_ ?_ <;> (first | omega | (simp; done) | (simp; omega))
  · exact Ext.go
end
end Go.Proofs.Ytjhgcbchdnoleaa
