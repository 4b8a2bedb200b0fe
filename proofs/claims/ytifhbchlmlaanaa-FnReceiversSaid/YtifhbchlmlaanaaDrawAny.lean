/-
  Drawn receivers: l7Any. Condition: the cursor.
-/
import Derived.Test.YtifhbchlmlaanaaDrawRv
namespace Go.Proofs.Ytifhbchlmlaanaa
open Go.ChangeShapes Go.WideShapes Go.ChangeAt Go.RowKit
set_option linter.unusedSimpArgs false
set_option linter.unusedVariables false
set_option maxHeartbeats 4000000 in
set_option maxRecDepth 100000 in
theorem l7Any_any (p : Nat) (code : Value) (w : World) (hc : CurAt w p code) :
    Calls Try.prog 82 #[.pointer (some ⟨p, 0, none⟩)] w (DrewRv 6 p code w) := by
  have hpl := hc.lt
  go_enter Try.func82, Try.ntmps82
  go_wp2_with fail
  refine (l7Receiver_any p code _ (hc.ext ((Ext.refl w).alloc _))).mono ?_
  rintro en w1 ⟨r, ao, cap, rfl, hok, hown, hcu1, hg1⟩
  have hs1 : w.heap.size + 1 ≤ w1.heap.size := by have := hg1.size; simpa using this
  have hB2 : BoxRv w.heap.size w1 ⟨0, 0, 0, 0, 0, []⟩ none 0 := (BoxRv.new w ⟨0, 0, 0, 0, 0, []⟩ none 0 26).chg hg1 (by (try dsimp only); omega)
  have hgw1 : Chg (fun b => b = p) w w1 := Chg.trans (((Ext.refl w).alloc _).chg _) hg1
  have hown1 := OwnC.mono (lo' := w.heap.size + 1) hown (by simp) (Nat.le_refl _)
  clear hown hg1
  have hE : Ext w1 (w1.alloc (.cells #[.int .i64 r.st, .int .i64 r.nx, .slice ao r.cs.length cap, .int .i64 r.fi, .int .i64 r.hg, .int .i64 r.co] 26)) := (Ext.refl w1).alloc _
  go_wp2_with fail
  refine (l1Below_pos p code 16 _ (by omega) (hcu1.ext hE)).mono ?_
  rintro en w2 ⟨q, rfl, ⟨q0, q1⟩, hcu2, hg2⟩
  have hB3 : BoxRv w1.heap.size w2 r ao cap := (BoxRv.new w1 r ao cap 26).chg hg2 (by (try dsimp only); omega)
  replace hB2 := hide ((hB2.ext hE).chg hg2 (by (try dsimp only); omega))
  have hs2 : w1.heap.size + 1 ≤ w2.heap.size := by have := hg2.size; simpa using this
  have hgw2 : Chg (fun b => b = p) w w2 := (hgw1.trans (hE.chg _)).trans hg2
  have hown2 := (OwnC.chg hown1 ((hE.chg (fun b => b = p)).trans hg2) (fun b h1 h2 h3 => by (try dsimp only at h3); omega))
  have hne : w.heap.size ≠ w1.heap.size := by omega
  have hne2 : w1.heap.size ≠ w.heap.size := by omega
  replace hB3 := hide hB3
  clear hE hg2 hgw1 hown1
  by_cases e0 : q = 0
  · have e0e : (q == 0) = true := by simp [e0]
    clear e0
    obtain ⟨b30, b31, b32, b33, b34, b35, b3F⟩ := hB3.out
    obtain ⟨b20, b21, b22, b23, b24, b25, b2F⟩ := hB2.out
    have k22 : w.heap.size < w2.heap.size := by omega
    have k32 : w1.heap.size < w2.heap.size := by omega
    go_wp2_with fail
    refine (l1Below_pos p code 8 _ (by omega) hcu2).mono ?_
    rintro en w3 ⟨y, rfl, hy, hcu3, hg3⟩
    obtain ⟨y0, y1⟩ := hy
    have hz3 : w2.heap.size ≤ w3.heap.size := by have := hg3.size; (try simp at this); omega
    have hE2 : Chg (fun b => b = p) w2 w3 := (by first | with_reducible exact hg3 | exact Chg.trans (((Ext.refl w2).alloc _).chg _) hg3)
    have hB33 := hB3.out.chg hE2 (by (try dsimp only); omega)
    have hB23 := hB2.out.chg hE2 (by (try dsimp only); omega)
    have hown3 := (OwnC.chg hown2 hE2 (fun b h1 h2 h3 => by (try dsimp only at h3); omega))
    have hgw3 := (hgw2.trans hE2).mono (T := fun b => b = p ∨ w.heap.size ≤ b) (fun b _ h => Or.inl h)
    clear b30 b31 b32 b33 b34 b35 b3F b20 b21 b22 b23 b24 b25 b2F hg3
    have hB33' := hide hB33
    have hB23' := hide hB23
    obtain ⟨b30, b31, b32, b33, b34, b35, b3F⟩ := hB33
    obtain ⟨b20, b21, b22, b23, b24, b25, b2F⟩ := hB23
    have k23 : w.heap.size < w3.heap.size := by omega
    have k33 : w1.heap.size < w3.heap.size := by omega
    go_wp2
    have hst : Chg (fun b => b = w1.heap.size) w3 (w3.setCell ⟨w1.heap.size, 0, none⟩ (.int .i64 (y - 1))) := Chg.set (S := fun b => b = w1.heap.size) (p := ⟨w1.heap.size, 0, none⟩) (Or.inl rfl) (Chg.refl _ _) _
    have hB24 := hB23'.out.chg hst (by (try dsimp only); omega)
    have hown4 := (hown3.chg hst (fun b h1 h2 h3 => by (try dsimp only at h3); omega))
    have hset := BoxRv.set hB24 ⟨y - 1, r.nx, r.fi, r.hg, r.co, r.cs⟩ ao cap
    unfold set6 at hset
    dsimp only at hset
    refine bodyPost_ret (v := .agg #[.int .i64 (y - 1), .int .i64 r.nx, .slice ao r.cs.length cap, .int .i64 r.fi, .int .i64 r.hg, .int .i64 r.co]) (by simp [results, Try.results82, go_sem, *]) rfl ⟨⟨y - 1, r.nx, r.fi, r.hg, r.co, r.cs⟩, ao, cap, rfl, ⟨hok.len, hok.wf, hok.nx⟩, ?_, ?_, ?_⟩
    · exact (OwnC.chg hown4 hset.2 (fun b h1 h2 h3 => by (try dsimp only at h3); omega)).mono (by omega) (by have z1 := hset.2.size; have z2 := hst.size; omega)
    · exact (hcu3.stays hst (fun b h => by (try dsimp only); omega)).stays hset.2 (fun b h => by (try dsimp only); omega)
    · exact ((hgw3.trans (hst.mono (T := fun b => b = p ∨ w.heap.size ≤ b) (fun b _ h => by (try dsimp only at h ⊢); omega))).trans (hset.2.mono (T := fun b => b = p ∨ w.heap.size ≤ b) (fun b _ h => by (try dsimp only at h ⊢); omega))).mono (fun b hb h => by (try dsimp only at h ⊢); omega)
  · have e0e : (q == 0) = false := by simp [e0]
    by_cases e1 : q = 1
    · have e1e : (q == 1) = true := by simp [e1]
      clear e0 e1
      obtain ⟨b30, b31, b32, b33, b34, b35, b3F⟩ := hB3.out
      obtain ⟨b20, b21, b22, b23, b24, b25, b2F⟩ := hB2.out
      have k22 : w.heap.size < w2.heap.size := by omega
      have k32 : w1.heap.size < w2.heap.size := by omega
      go_wp2_with fail
      refine (l1PickInt_new p code [-2, -1, 0, 5, 30, 4611686018427387904] 3 w2 hcu2 (by simp) (by simp)).mono ?_
      rintro en w3 ⟨y, rfl, hy, hcu3, hg3⟩
      have hz3 : w2.heap.size ≤ w3.heap.size := by have := hg3.size; (try simp at this); omega
      have hE2 : Chg (fun b => b = p) w2 w3 := (by first | with_reducible exact hg3 | exact Chg.trans (((Ext.refl w2).alloc _).chg _) hg3)
      have hB33 := hB3.out.chg hE2 (by (try dsimp only); omega)
      have hB23 := hB2.out.chg hE2 (by (try dsimp only); omega)
      have hown3 := (OwnC.chg hown2 hE2 (fun b h1 h2 h3 => by (try dsimp only at h3); omega))
      have hgw3 := (hgw2.trans hE2).mono (T := fun b => b = p ∨ w.heap.size ≤ b) (fun b _ h => Or.inl h)
      clear b30 b31 b32 b33 b34 b35 b3F b20 b21 b22 b23 b24 b25 b2F hg3
      have hB33' := hide hB33
      have hB23' := hide hB23
      obtain ⟨b30, b31, b32, b33, b34, b35, b3F⟩ := hB33
      obtain ⟨b20, b21, b22, b23, b24, b25, b2F⟩ := hB23
      have k23 : w.heap.size < w3.heap.size := by omega
      have k33 : w1.heap.size < w3.heap.size := by omega
      go_wp2
      have hst : Chg (fun b => b = w1.heap.size) w3 (w3.setCell ⟨w1.heap.size, 3, none⟩ (.int .i64 y)) := Chg.set (S := fun b => b = w1.heap.size) (p := ⟨w1.heap.size, 3, none⟩) (Or.inl rfl) (Chg.refl _ _) _
      have hB24 := hB23'.out.chg hst (by (try dsimp only); omega)
      have hown4 := (hown3.chg hst (fun b h1 h2 h3 => by (try dsimp only at h3); omega))
      have hset := BoxRv.set hB24 ⟨r.st, r.nx, y, r.hg, r.co, r.cs⟩ ao cap
      unfold set6 at hset
      dsimp only at hset
      refine bodyPost_ret (v := .agg #[.int .i64 r.st, .int .i64 r.nx, .slice ao r.cs.length cap, .int .i64 y, .int .i64 r.hg, .int .i64 r.co]) (by simp [results, Try.results82, go_sem, *]) rfl ⟨⟨r.st, r.nx, y, r.hg, r.co, r.cs⟩, ao, cap, rfl, ⟨hok.len, hok.wf, hok.nx⟩, ?_, ?_, ?_⟩
      · exact (OwnC.chg hown4 hset.2 (fun b h1 h2 h3 => by (try dsimp only at h3); omega)).mono (by omega) (by have z1 := hset.2.size; have z2 := hst.size; omega)
      · exact (hcu3.stays hst (fun b h => by (try dsimp only); omega)).stays hset.2 (fun b h => by (try dsimp only); omega)
      · exact ((hgw3.trans (hst.mono (T := fun b => b = p ∨ w.heap.size ≤ b) (fun b _ h => by (try dsimp only at h ⊢); omega))).trans (hset.2.mono (T := fun b => b = p ∨ w.heap.size ≤ b) (fun b _ h => by (try dsimp only at h ⊢); omega))).mono (fun b hb h => by (try dsimp only at h ⊢); omega)
    · have e1e : (q == 1) = false := by simp [e1]
      by_cases e2 : q = 2
      · have e2e : (q == 2) = true := by simp [e2]
        clear e0 e1 e2
        obtain ⟨b30, b31, b32, b33, b34, b35, b3F⟩ := hB3.out
        obtain ⟨b20, b21, b22, b23, b24, b25, b2F⟩ := hB2.out
        have k22 : w.heap.size < w2.heap.size := by omega
        have k32 : w1.heap.size < w2.heap.size := by omega
        go_wp2_with fail
        refine (l1PickInt_new p code [-1, 0, 30] 3 w2 hcu2 (by simp) (by simp)).mono ?_
        rintro en w3 ⟨y, rfl, hy, hcu3, hg3⟩
        have hz3 : w2.heap.size ≤ w3.heap.size := by have := hg3.size; (try simp at this); omega
        have hE2 : Chg (fun b => b = p) w2 w3 := (by first | with_reducible exact hg3 | exact Chg.trans (((Ext.refl w2).alloc _).chg _) hg3)
        have hB33 := hB3.out.chg hE2 (by (try dsimp only); omega)
        have hB23 := hB2.out.chg hE2 (by (try dsimp only); omega)
        have hown3 := (OwnC.chg hown2 hE2 (fun b h1 h2 h3 => by (try dsimp only at h3); omega))
        have hgw3 := (hgw2.trans hE2).mono (T := fun b => b = p ∨ w.heap.size ≤ b) (fun b _ h => Or.inl h)
        clear b30 b31 b32 b33 b34 b35 b3F b20 b21 b22 b23 b24 b25 b2F hg3
        have hB33' := hide hB33
        have hB23' := hide hB23
        obtain ⟨b30, b31, b32, b33, b34, b35, b3F⟩ := hB33
        obtain ⟨b20, b21, b22, b23, b24, b25, b2F⟩ := hB23
        have k23 : w.heap.size < w3.heap.size := by omega
        have k33 : w1.heap.size < w3.heap.size := by omega
        go_wp2
        have hst : Chg (fun b => b = w1.heap.size) w3 (w3.setCell ⟨w1.heap.size, 4, none⟩ (.int .i64 y)) := Chg.set (S := fun b => b = w1.heap.size) (p := ⟨w1.heap.size, 4, none⟩) (Or.inl rfl) (Chg.refl _ _) _
        have hB24 := hB23'.out.chg hst (by (try dsimp only); omega)
        have hown4 := (hown3.chg hst (fun b h1 h2 h3 => by (try dsimp only at h3); omega))
        have hset := BoxRv.set hB24 ⟨r.st, r.nx, r.fi, y, r.co, r.cs⟩ ao cap
        unfold set6 at hset
        dsimp only at hset
        refine bodyPost_ret (v := .agg #[.int .i64 r.st, .int .i64 r.nx, .slice ao r.cs.length cap, .int .i64 r.fi, .int .i64 y, .int .i64 r.co]) (by simp [results, Try.results82, go_sem, *]) rfl ⟨⟨r.st, r.nx, r.fi, y, r.co, r.cs⟩, ao, cap, rfl, ⟨hok.len, hok.wf, hok.nx⟩, ?_, ?_, ?_⟩
        · exact (OwnC.chg hown4 hset.2 (fun b h1 h2 h3 => by (try dsimp only at h3); omega)).mono (by omega) (by have z1 := hset.2.size; have z2 := hst.size; omega)
        · exact (hcu3.stays hst (fun b h => by (try dsimp only); omega)).stays hset.2 (fun b h => by (try dsimp only); omega)
        · exact ((hgw3.trans (hst.mono (T := fun b => b = p ∨ w.heap.size ≤ b) (fun b _ h => by (try dsimp only at h ⊢); omega))).trans (hset.2.mono (T := fun b => b = p ∨ w.heap.size ≤ b) (fun b _ h => by (try dsimp only at h ⊢); omega))).mono (fun b hb h => by (try dsimp only at h ⊢); omega)
      · have e2e : (q == 2) = false := by simp [e2]
        clear e0 e1 e2
        obtain ⟨b30, b31, b32, b33, b34, b35, b3F⟩ := hB3.out
        obtain ⟨b20, b21, b22, b23, b24, b25, b2F⟩ := hB2.out
        have k22 : w.heap.size < w2.heap.size := by omega
        have k32 : w1.heap.size < w2.heap.size := by omega
        have hset := BoxRv.set hB2.out r ao cap
        go_wp2
        unfold set6 at hset
        refine bodyPost_ret (v := .agg #[.int .i64 r.st, .int .i64 r.nx, .slice ao r.cs.length cap, .int .i64 r.fi, .int .i64 r.hg, .int .i64 r.co]) (by simp [results, Try.results82, go_sem, *]) rfl ⟨r, ao, cap, rfl, hok, ?_, ?_, ?_⟩
        · exact (OwnC.chg hown2 hset.2 (fun b h1 h2 h3 => by (try dsimp only at h3); omega)).mono (by omega) (by have z1 := hset.2.size; omega)
        · exact hcu2.stays hset.2 (fun b h => by (try dsimp only); omega)
        · exact ((hgw2.mono (T := fun b => b = p ∨ w.heap.size ≤ b) (fun b _ h => Or.inl h)).trans (hset.2.mono (T := fun b => b = p ∨ w.heap.size ≤ b) (fun b _ h => by (try dsimp only at h ⊢); omega))).mono (fun b hb h => by (try dsimp only at h ⊢); omega)
end Go.Proofs.Ytifhbchlmlaanaa
