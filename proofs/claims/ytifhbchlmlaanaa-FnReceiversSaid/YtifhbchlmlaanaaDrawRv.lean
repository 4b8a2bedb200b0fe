/-
  Drawn receivers. Conditions: the cursor.
-/
import Derived.Test.YtifhbchlmlaanaaRv
import Derived.Test.YtifhbchlmlaanaaDrawD
import Derived.Test.YtifhbchlmlaanaaNewRecv
import Derived.Deep.RegionHeld3
import Derived.Deep.DeepCutAuto
namespace Go.Proofs.Ytifhbchlmlaanaa
open Go.ChangeShapes Go.WideShapes Go.ChangeAt Go.RowKit
set_option linter.unusedSimpArgs false
set_option linter.unusedVariables false
/-- A drawn receiver: its chunks in memory of the call's own; the cursor alone has turned. -/
def DrewRv (m p : Nat) (code : Value) (w : World) (en : Ending) (w' : World) : Prop :=
  ∃ (r : Rv) (ao : Option Addr) (cap : Nat), en = .returned (.agg #[.int .i64 r.st, .int .i64 r.nx, .slice ao r.cs.length cap, .int .i64 r.fi, .int .i64 r.hg, .int .i64 r.co]) ∧ RecOk m r ∧ OwnC w.heap.size w'.heap.size w' ao r.cs ∧ CurAt w' p code ∧ Chg (fun k => k = p) w w'
theorem CurAt.ext {w w' : World} {p : Nat} {code : Value} (h : CurAt w p code) (hx : Ext w w') : CurAt w' p code := h.stays (hx.chg (fun _ => False)) (fun _ _ h => h)
/-- A receiver in a box. -/
structure BoxRv (B : Nat) (w : World) (r : Rv) (ao : Option Addr) (cap : Nat) : Prop where
  c0 : w.cell? ⟨B, 0, none⟩ = some (.int .i64 r.st)
  c1 : w.cell? ⟨B, 1, none⟩ = some (.int .i64 r.nx)
  c2 : w.cell? ⟨B, 2, none⟩ = some (.slice ao r.cs.length cap)
  c3 : w.cell? ⟨B, 3, none⟩ = some (.int .i64 r.fi)
  c4 : w.cell? ⟨B, 4, none⟩ = some (.int .i64 r.hg)
  c5 : w.cell? ⟨B, 5, none⟩ = some (.int .i64 r.co)
  fr : ∀ o, w.frozen? ⟨B, o, none⟩ = false
theorem BoxRv.chg {S : Nat → Prop} {B : Nat} {w w' : World} {r : Rv} {ao : Option Addr} {cap : Nat} (h : BoxRv B w r ao cap) (hx : Chg S w w') (hS : ¬ S B) : BoxRv B w' r ao cap := by
  obtain ⟨x, y⟩ := hx.row (World.block_lt_of_cell? w _ h.c0) hS
  exact ⟨(x _).trans h.c0, (x _).trans h.c1, (x _).trans h.c2, (x _).trans h.c3, (x _).trans h.c4, (x _).trans h.c5, fun o => (y o).trans (h.fr o)⟩
theorem BoxRv.ext {B : Nat} {w w' : World} {r : Rv} {ao : Option Addr} {cap : Nat} (h : BoxRv B w r ao cap) (hx : Ext w w') : BoxRv B w' r ao cap := h.chg (hx.chg (fun _ => False)) (fun h => h)
theorem BoxRv.new (w : World) (r : Rv) (ao : Option Addr) (cap : Nat) (T : TypeId) : BoxRv w.heap.size (w.alloc (.cells #[.int .i64 r.st, .int .i64 r.nx, .slice ao r.cs.length cap, .int .i64 r.fi, .int .i64 r.hg, .int .i64 r.co] T)) r ao cap :=
  ⟨by simp [go_sem], by simp [go_sem], by simp [go_sem], by simp [go_sem], by simp [go_sem], by simp [go_sem], fun o => by simp [go_sem]⟩
/-- The six cells stored. -/
def set6 (w : World) (B : Nat) (a b c d e f : Value) : World := (((((w.setCell ⟨B, 0, none⟩ a).setCell ⟨B, 1, none⟩ b).setCell ⟨B, 2, none⟩ c).setCell ⟨B, 3, none⟩ d).setCell ⟨B, 4, none⟩ e).setCell ⟨B, 5, none⟩ f
theorem cell_oth {w : World} {b o1 o2 : Nat} {v : Value} (h : o1 ≠ o2) : (w.setCell ⟨b, o1, none⟩ v).cell? ⟨b, o2, none⟩ = w.cell? ⟨b, o2, none⟩ :=
  World.cell?_setCell_other w ⟨b, o1, none⟩ ⟨b, o2, none⟩ v (fun e => h (by injection e))
theorem BoxRv.set {B : Nat} {w : World} {r : Rv} {ao : Option Addr} {cap : Nat} (h : BoxRv B w r ao cap) (q : Rv) (ao' : Option Addr) (cap' : Nat) :
    BoxRv B (set6 w B (.int .i64 q.st) (.int .i64 q.nx) (.slice ao' q.cs.length cap') (.int .i64 q.fi) (.int .i64 q.hg) (.int .i64 q.co)) q ao' cap' ∧ Chg (fun k => k = B) w (set6 w B (.int .i64 q.st) (.int .i64 q.nx) (.slice ao' q.cs.length cap') (.int .i64 q.fi) (.int .i64 q.hg) (.int .i64 q.co)) := by
  unfold set6
  refine ⟨⟨?_, ?_, ?_, ?_, ?_, ?_, fun o => ?_⟩, ?_⟩
  · rw [cell_oth (by omega), cell_oth (by omega), cell_oth (by omega), cell_oth (by omega), cell_oth (by omega), World.cell?_setCell_same' _ _ _ (by rw [h.c0]; rfl)]; try rfl
  · rw [cell_oth (by omega), cell_oth (by omega), cell_oth (by omega), cell_oth (by omega), World.cell?_setCell_same' _ _ _ (by rw [cell_oth (by omega), h.c1]; rfl)]; try rfl
  · rw [cell_oth (by omega), cell_oth (by omega), cell_oth (by omega), World.cell?_setCell_same' _ _ _ (by rw [cell_oth (by omega), cell_oth (by omega), h.c2]; rfl)]; try rfl
  · rw [cell_oth (by omega), cell_oth (by omega), World.cell?_setCell_same' _ _ _ (by rw [cell_oth (by omega), cell_oth (by omega), cell_oth (by omega), h.c3]; rfl)]; try rfl
  · rw [cell_oth (by omega), World.cell?_setCell_same' _ _ _ (by rw [cell_oth (by omega), cell_oth (by omega), cell_oth (by omega), cell_oth (by omega), h.c4]; rfl)]; try rfl
  · rw [World.cell?_setCell_same' _ _ _ (by rw [cell_oth (by omega), cell_oth (by omega), cell_oth (by omega), cell_oth (by omega), cell_oth (by omega), h.c5]; rfl)]; try rfl
  · simp only [World.frozen?_setCell]; exact h.fr o
  · have g : ∀ {a b : World} {o : Nat} {v : Value}, Chg (fun k => k = B) a b → Chg (fun k => k = B) a (b.setCell ⟨B, o, none⟩ v) := fun hh => Chg.set (S := fun k => k = B) (Or.inl rfl) hh _
    exact g (g (g (g (g (g (Chg.refl _ _))))))
set_option maxHeartbeats 2000000 in
set_option maxRecDepth 100000 in
theorem l7Receiver_any (p : Nat) (code : Value) (w : World) (hc : CurAt w p code) :
    Calls Try.prog 105 #[.pointer (some ⟨p, 0, none⟩)] w (DrewRv 6 p code w) := by
  have hpl := hc.lt
  go_enter Try.func105, Try.ntmps105
  go_wp2_with fail
  refine (NewReceiver_spec _).mono ?_
  rintro en w1 ⟨rfl, hb1⟩
  have hs1 : w.heap.size + 1 ≤ w1.heap.size := by have := hb1.size; simpa using this
  have xw1 : Ext w w1 := Ext.trans ((Ext.refl w).alloc _) hb1
  have hB2 : BoxRv w.heap.size w1 ⟨0, 0, 0, 0, 0, []⟩ none 0 := BoxRv.ext (BoxRv.new w ⟨0, 0, 0, 0, 0, []⟩ none 0 26) hb1
  go_wp2_with fail
  have hE : Ext w1 (w1.alloc (.cells #[.int .i64 0, .int .i64 0, .slice none 0 0, .int .i64 (-1), .int .i64 0, .int .i64 0] 26)) := (Ext.refl w1).alloc _
  refine (l1Below_pos p code 7 _ (by omega) (hc.ext (xw1.trans hE))).mono ?_
  rintro en w2 ⟨n0, rfl, ⟨x0, x1⟩, hcu2, hg2⟩
  have hB3 : BoxRv w1.heap.size w2 ⟨0, 0, -1, 0, 0, []⟩ none 0 := (BoxRv.new w1 ⟨0, 0, -1, 0, 0, []⟩ none 0 26).chg hg2 (by (try dsimp only); omega)
  replace hB2 := (hB2.ext hE).chg hg2 (by (try dsimp only); omega)
  have hs2 : w1.heap.size + 1 ≤ w2.heap.size := by have := hg2.size; simpa using this
  have hgw2 : Chg (fun b => b = p ∨ w.heap.size ≤ b) w w2 := Chg.trans (Ext.chg (xw1.trans hE) _) (hg2.mono (fun b _ h => Or.inl h))
  clear hb1 hE hg2
  replace hB2 := hide hB2
  replace hB3 := hide hB3
  go_wp2_with fail
  go_loopw [4] (fun i wr => ∃ (k : Int) (r : Rv) (ao : Option Addr) (cap : Nat), i = .int .i64 k ∧ 0 ≤ k ∧ k ≤ n0 ∧ RecOk (n0 - k).toNat r ∧ BoxRv w1.heap.size wr r ao cap ∧ BoxRv w.heap.size wr ⟨0, 0, 0, 0, 0, []⟩ none 0 ∧ OwnC (w1.heap.size + 1) wr.heap.size wr ao r.cs ∧ CurAt wr p code ∧ Chg (fun b => b = p ∨ w.heap.size ≤ b) w wr ∧ w1.heap.size + 1 ≤ wr.heap.size) (fun i _ => (intOf i).toNat)
  case atStart => exact ⟨n0, ⟨0, 0, -1, 0, 0, []⟩, none, 0, rfl, x0, Int.le_refl _, ⟨Nat.zero_le _, fun c hc => by simp at hc, by decide⟩, hB3.out, hB2.out, Or.inl rfl, hcu2, hgw2, hs2⟩
  case round =>
    obtain ⟨k, r, ao, cap, rfl, k0, k1, hok, hB3, hB2, hown, hcu, hgw, hsz⟩ := hrel
    have hpw : p < w.heap.size := hpl
    by_cases hlt : 0 < k
    · have hk1 : 1 ≤ k := by omega
      have hm : (n0 - k).toNat ≤ 1048576 := by omega
      have hokn : RecOk (n0 - (k - 1)).toNat r := hok.mono (by omega)
      have hm1 : (n0 - k).toNat + 1 = (n0 - (k - 1)).toNat := by omega
      go_wp2_with fail
      refine (l1Below_pos p code 10 _ (by omega) hcu).mono ?_
      rintro en w3 ⟨o, rfl, ⟨o0, o1⟩, hcu3, hg3⟩
      go_wp2_with fail
      refine (l4Data_any p code 4 _ hcu3 (by omega) (by omega)).mono ?_
      rintro en w4 ⟨d, rfl, hd, hcu4, hg4⟩
      have hg34 := hg3.trans hg4
      have hz4 := hg34.size
      replace hB3 := hB3.chg hg34 (by (try dsimp only); omega)
      replace hB2 := hB2.chg hg34 (by (try dsimp only); omega)
      replace hown := (hown.chg hg34 (fun b h1 h2 h3 => by (try dsimp only at h3); omega)).mono (Nat.le_refl _) hz4
      replace hgw := hgw.trans (hg34.mono (fun b _ h => Or.inl h))
      clear hg3 hg4 hg34 hcu hcu3
      have hB3h := hide hB3
      have hB2h := hide hB2
      obtain ⟨b30, b31, b32, b33, b34, b35, b3F⟩ := hB3
      go_wp2_with fail
      have hE : Ext w4 (w4.alloc (.cells #[.int .i64 r.st, .int .i64 r.nx, .slice ao r.cs.length cap, .int .i64 r.fi, .int .i64 r.hg, .int .i64 r.co] 26)) := (Ext.refl w4).alloc _
      refine (l1Below_pos p code 8 _ (by omega) (hcu4.ext hE)).mono ?_
      rintro en w5 ⟨q, rfl, ⟨q0, q1⟩, hcu5, hg5⟩
      have hBx : BoxRv w4.heap.size w5 r ao cap := (BoxRv.new w4 r ao cap 26).chg hg5 (by (try dsimp only); omega)
      replace hB3 := (hB3h.out.ext hE).chg hg5 (by (try dsimp only); omega)
      replace hB2 := (hB2h.out.ext hE).chg hg5 (by (try dsimp only); omega)
      replace hown := (hown.chg ((hE.chg (fun b => b = p)).trans hg5) (fun b h1 h2 h3 => by (try dsimp only at h3); omega))
      replace hgw := hgw.trans (((hE.chg (fun b => b = p)).trans hg5).mono (fun b _ h => Or.inl h))
      have hz5 : w4.heap.size + 1 ≤ w5.heap.size := by have := hg5.size; simpa using this
      clear hg5 hE hcu4 b30 b31 b32 b33 b34 b35 b3F hB3h hB2h
      have hBlt : w1.heap.size < w4.heap.size := by omega
      have hne1 : w1.heap.size ≠ w4.heap.size := by omega
      have hne2 : w4.heap.size ≠ w1.heap.size := by omega
      have hpb : p < w1.heap.size := by omega
      have hwb : w.heap.size < w1.heap.size := by omega
      have hz5b : w4.heap.size < w5.heap.size := by omega
      have hz5c : w1.heap.size < w5.heap.size := by omega
      by_cases e0 : q = 0
      · have e0e : (q == 0) = true := by simp [e0]
        clear e0
        replace hB3 := hide hB3
        replace hBx := hide hBx
        obtain ⟨b30, b31, b32, b33, b34, b35, b3F⟩ := hB3.out
        obtain ⟨bx0, bx1, bx2, bx3, bx4, bx5, bxF⟩ := hBx.out
        go_wp2_with fail
        refine (rda_spec _ r o d true ao cap _ hown.read hok hm (by omega) (by omega)).mono ?_
        rintro en w6 ⟨ao6, cap6, rfl, ho6, hb6⟩
        have hz6 := hb6.size
        have okq := rdaV_ok (off := o) (data := d) (fin := true) hok
        rw [hm1] at okq
        replace hBx := hBx.out.ext hb6
        replace hB3 := hB3.out.ext hb6
        replace hB2 := hB2.ext hb6
        replace hgw := hgw.trans (hb6.chg _)
        have hcu6 := hcu5.ext hb6
        clear b30 b31 b32 b33 b34 b35 b3F bx0 bx1 bx2 bx3 bx4 bx5 bxF hown hb6 hcu5 hokn
        generalize rdaV r o d true = qv at *
        have hB3' := hB3
        have hBx' := hBx
        obtain ⟨b30, b31, b32, b33, b34, b35, b3F⟩ := hB3'
        obtain ⟨bx0, bx1, bx2, bx3, bx4, bx5, bxF⟩ := hBx'
        have kx6 : w4.heap.size < w6.heap.size := by omega
        have k36 : w1.heap.size < w6.heap.size := by omega
        have ho6' := OwnC.mono (lo' := w5.heap.size) ho6 (Nat.le_refl _) (Nat.le_refl _)
        have hset1 := BoxRv.set hBx qv ao6 cap6
        have hset2 := BoxRv.set (hB3.chg hset1.2 (by (try dsimp only); omega)) qv ao6 cap6
        have hch := hset1.2.mono (T := fun b => b = w4.heap.size ∨ b = w1.heap.size) (fun _ _ h => Or.inl h) |>.trans (hset2.2.mono (T := fun b => b = w4.heap.size ∨ b = w1.heap.size) (fun _ _ h => Or.inr h))
        have hq1 := hide hset2.1
        have hq2 := hide (hB2.chg hch (by (try dsimp only); omega))
        have hq3 := hide (ho6'.chg hch (fun b h1 h2 h3 => by (try dsimp only at h3); omega))
        have hq4 := hide (hcu6.stays hch (fun b h => by (try dsimp only); omega))
        have hq5 := hide (hgw.trans (hch.mono (T := fun b => b = p ∨ w.heap.size ≤ b) (fun b _ h => by (try dsimp only at h ⊢); omega)))
        have hq6 := hch.size
        clear hset1 hset2 hch
        unfold set6 at hq1 hq2 hq3 hq4 hq5 hq6
        go_wp2
        go_roundw
        case rel => exact ⟨k - 1, _, _, _, rfl, by omega, by omega, okq, hq1.out, hq2.out, hq3.out.mono (by omega) hq6, hq4.out, hq5.out, by omega⟩
        case measure => simp [intOf]; omega
      · have e0e : (q == 0) = false := by simp [e0]
        by_cases e1 : q = 1
        · have e1e : (q == 1) = true := by simp [e1]
          clear e0 e1
          replace hB3 := hide hB3
          replace hBx := hide hBx
          obtain ⟨b30, b31, b32, b33, b34, b35, b3F⟩ := hB3.out
          obtain ⟨bx0, bx1, bx2, bx3, bx4, bx5, bxF⟩ := hBx.out
          replace hB2 := hide hB2
          replace hown := hide hown
          go_wp2_with fail
          go_region_held3 (fun w' => w'.cell? ⟨w1.heap.size, 0, none⟩ = some (.int .i64 r.st) ∧ w'.cell? ⟨w1.heap.size, 1, none⟩ = some (.int .i64 r.nx) ∧ w'.cell? ⟨w1.heap.size, 2, none⟩ = some (.slice ao r.cs.length cap) ∧ w'.cell? ⟨w1.heap.size, 3, none⟩ = some (.int .i64 r.fi) ∧ w'.cell? ⟨w1.heap.size, 4, none⟩ = some (.int .i64 r.hg) ∧ w'.cell? ⟨w1.heap.size, 5, none⟩ = some (.int .i64 r.co))
            (first | go_keep | exact ⟨s0, s1, s2, s3, s4, s5⟩)
            (first | (go_at_call 83; refine (l1Below_pos p code 5 _ (by omega) (by first | exact hcu5 | exact hcu5.drew)).mono ?_; rintro en w6 ⟨y, rfl, ⟨y0, y1⟩, hcu6, hg60⟩; have hg6 : Chg (fun k => k = p) w5 w6 := (by first | with_reducible exact hg60 | exact Chg.trans ((Ext.refl w5).drew.chg _) hg60); have hB36 := hide (hB3.out.chg (w := w5) hg6 (by (try dsimp only); omega)); have hBx6 := hide (hBx.out.chg (w := w5) hg6 (by (try dsimp only); omega)); have hB26 := hide (hB2.out.chg (w := w5) hg6 (by (try dsimp only); omega)); have hown6 := hide (OwnC.chg (w := w5) hown.out hg6 (fun b h1 h2 h3 => by (try dsimp only at h3); omega)); have hgw6 : Chg (fun b => b = p ∨ w.heap.size ≤ b) w w6 := hgw.trans (b := w5) (hg6.mono (fun b _ h => Or.inl h)); have hz6 : w5.heap.size ≤ w6.heap.size := hg6.size; obtain ⟨s0, s1, s2, s3, s4, s5, sF⟩ := hB36.out) | (go_at_call 32; refine (rd_spec _ r y ao cap _ hown6.out.read hok hm).mono ?_; rintro en w7 ⟨ao7, cap7, rfl, ho7, hb7⟩; have hz7 : w6.heap.size ≤ w7.heap.size := hb7.size; have hB37 := hide (hB36.out.ext hb7); have hBx7 := hide (hBx6.out.ext hb7); have hB27 := hide (hB26.out.ext hb7); have hgw7 := hgw6.trans (hb7.chg _); have hcu7 := hcu6.ext hb7; have ho7' := hide (OwnC.mono (lo' := w6.heap.size) ho7 (Nat.le_refl _) (Nat.le_refl _)); clear s0 s1 s2 s3 s4 s5 sF b30 b31 b32 b33 b34 b35 b3F bx0 bx1 bx2 bx3 bx4 bx5 bxF; obtain ⟨s0, s1, s2, s3, s4, s5, sF⟩ := hB37.out; obtain ⟨bx0, bx1, bx2, bx3, bx4, bx5, bxF⟩ := hBx7.out; have kx7 : w4.heap.size < w7.heap.size := (by omega); have k37 : w1.heap.size < w7.heap.size := (by omega)))
          have okq := rdV_ok (q := y) hokn
          have hset1 := BoxRv.set hBx7.out (rdV r y) ao7 cap7
          have hset2 := BoxRv.set (hB37.out.chg hset1.2 (by (try dsimp only); omega)) (rdV r y) ao7 cap7
          have hch := hset1.2.mono (T := fun b => b = w4.heap.size ∨ b = w1.heap.size) (fun _ _ h => Or.inl h) |>.trans (hset2.2.mono (T := fun b => b = w4.heap.size ∨ b = w1.heap.size) (fun _ _ h => Or.inr h))
          have hq1 := hide hset2.1
          have hq2 := hide (hB27.out.chg hch (by (try dsimp only); omega))
          have hq3 := hide (ho7'.out.chg hch (fun b h1 h2 h3 => by (try dsimp only at h3); omega))
          have hq4 := hide (hcu7.stays hch (fun b h => by (try dsimp only); omega))
          have hq5 := hide (hgw7.trans (hch.mono (T := fun b => b = p ∨ w.heap.size ≤ b) (fun b _ h => by (try dsimp only at h ⊢); omega)))
          have hq6 := hch.size
          clear hset1 hset2 hch
          unfold set6 at hq1 hq2 hq3 hq4 hq5 hq6
          go_wp2
          go_roundw
          case rel => exact ⟨k - 1, _, _, _, rfl, by omega, by omega, okq, hq1.out, hq2.out, hq3.out.mono (by omega) hq6, hq4.out, hq5.out, by omega⟩
          case measure => simp [intOf]; omega
        · have e1e : (q == 1) = false := by simp [e1]
          by_cases e2 : q = 2
          · have e2e : (q == 2) = true := by simp [e2]
            clear e0 e1 e2
            replace hB3 := hide hB3
            replace hBx := hide hBx
            obtain ⟨b30, b31, b32, b33, b34, b35, b3F⟩ := hB3.out
            obtain ⟨bx0, bx1, bx2, bx3, bx4, bx5, bxF⟩ := hBx.out
            replace hB2 := hide hB2
            replace hown := hide hown
            go_wp2_with fail
            refine (l1Once_any p code 3 _ hcu5).mono ?_
            rintro en w6 ⟨bb, rfl, hcu6, hg6⟩
            have hB36 := hide (hB3.out.chg hg6 (by (try dsimp only); omega))
            have hBx6 := hide (hBx.out.chg hg6 (by (try dsimp only); omega))
            have hB26 := hide (hB2.out.chg hg6 (by (try dsimp only); omega))
            have hown6 := hide (OwnC.chg hown.out hg6 (fun b h1 h2 h3 => by (try dsimp only at h3); omega))
            have hgw6 : Chg (fun b => b = p ∨ w.heap.size ≤ b) w w6 := hgw.trans (hg6.mono (fun b _ h => Or.inl h))
            have hz6 : w5.heap.size ≤ w6.heap.size := hg6.size
            clear b30 b31 b32 b33 b34 b35 b3F bx0 bx1 bx2 bx3 bx4 bx5 bxF
            have kx6 : w4.heap.size < w6.heap.size := by omega
            have k36 : w1.heap.size < w6.heap.size := by omega
            obtain ⟨b30, b31, b32, b33, b34, b35, b3F⟩ := hB36.out
            obtain ⟨bx0, bx1, bx2, bx3, bx4, bx5, bxF⟩ := hBx6.out
            cases bb
            · have ho6' := hide (OwnC.mono (lo' := w1.heap.size + 1) (hi' := w6.heap.size) hown6.out (Nat.le_refl _) (by omega))
              have hset2 := BoxRv.set hB36.out r ao cap
              have hch := hset2.2
              have hq1 := hide hset2.1
              have hq2 := hide (hB26.out.chg hch (by (try dsimp only); omega))
              have hq3 := hide (ho6'.out.chg hch (fun b h1 h2 h3 => by (try dsimp only at h3); omega))
              have hq4 := hide (hcu6.stays hch (fun b h => by (try dsimp only); omega))
              have hq5 := hide (hgw6.trans (hch.mono (T := fun b => b = p ∨ w.heap.size ≤ b) (fun b _ h => by (try dsimp only at h ⊢); omega)))
              have hq6 := hch.size
              clear hset2 hch
              unfold set6 at hq1 hq2 hq3 hq4 hq5 hq6
              go_wp2
              go_roundw
              case rel => exact ⟨k - 1, _, _, _, rfl, by omega, by omega, hokn, hq1.out, hq2.out, hq3.out.mono (by omega) hq6, hq4.out, hq5.out, by omega⟩
              case measure => simp [intOf]; omega
            · have hwr : IntKind.i64.wrap (10 + o) = 10 + o := IntWalk.i64_in _ (by omega)
              go_wp2_with fail
              go_region_held3 (fun w' => w'.cell? ⟨w1.heap.size, 0, none⟩ = some (.int .i64 r.st) ∧ w'.cell? ⟨w1.heap.size, 1, none⟩ = some (.int .i64 r.nx) ∧ w'.cell? ⟨w1.heap.size, 2, none⟩ = some (.slice ao r.cs.length cap) ∧ w'.cell? ⟨w1.heap.size, 3, none⟩ = some (.int .i64 r.fi) ∧ w'.cell? ⟨w1.heap.size, 4, none⟩ = some (.int .i64 r.hg) ∧ w'.cell? ⟨w1.heap.size, 5, none⟩ = some (.int .i64 r.co))
                (first | go_keep | exact ⟨s0, s1, s2, s3, s4, s5⟩)
                (first | (go_at_call 83; refine (l1Below_pos p code 4 _ (by omega) (by first | exact hcu6 | exact hcu6.drew)).mono ?_; rintro en w7 ⟨y, rfl, ⟨y0, y1⟩, hcu7, hg70⟩; have hg7 : Chg (fun k => k = p) w6 w7 := (by first | with_reducible exact hg70 | exact Chg.trans ((Ext.refl w6).drew.chg _) hg70); have hB37 := hide (hB36.out.chg (w := w6) hg7 (by (try dsimp only); omega)); have hBx7 := hide (hBx6.out.chg (w := w6) hg7 (by (try dsimp only); omega)); have hB27 := hide (hB26.out.chg (w := w6) hg7 (by (try dsimp only); omega)); have hown7 := hide (OwnC.chg (w := w6) hown6.out hg7 (fun b h1 h2 h3 => by (try dsimp only at h3); omega)); have hgw7 : Chg (fun b => b = p ∨ w.heap.size ≤ b) w w7 := hgw6.trans (b := w6) (hg7.mono (fun b _ h => Or.inl h)); have hz7 : w6.heap.size ≤ w7.heap.size := hg7.size; obtain ⟨s0, s1, s2, s3, s4, s5, sF⟩ := hB37.out) | (go_at_call 30; refine (rr_spec _ r y (10 + o) ao cap _ hown7.out.read hok hm).mono ?_; rintro en w8 ⟨ao8, cap8, rfl, ho8, hb8⟩; have hz8 : w7.heap.size ≤ w8.heap.size := hb8.size; have hB38 := hide (hB37.out.ext hb8); have hBx8 := hide (hBx7.out.ext hb8); have hB28 := hide (hB27.out.ext hb8); have hgw8 := hgw7.trans (hb8.chg _); have hcu8 := hcu7.ext hb8; have ho8' := hide (OwnC.mono (lo' := w7.heap.size) ho8 (Nat.le_refl _) (Nat.le_refl _)); clear s0 s1 s2 s3 s4 s5 sF b30 b31 b32 b33 b34 b35 b3F bx0 bx1 bx2 bx3 bx4 bx5 bxF; obtain ⟨s0, s1, s2, s3, s4, s5, sF⟩ := hB38.out; obtain ⟨bx0, bx1, bx2, bx3, bx4, bx5, bxF⟩ := hBx8.out; have kx8 : w4.heap.size < w8.heap.size := (by omega); have k38 : w1.heap.size < w8.heap.size := (by omega)))
              have okq := rrV_ok (k := y) (f := 10 + o) hokn
              have hset1 := BoxRv.set hBx8.out (rrV r y (10 + o)) ao8 cap8
              have hset2 := BoxRv.set (hB38.out.chg hset1.2 (by (try dsimp only); omega)) (rrV r y (10 + o)) ao8 cap8
              have hch := hset1.2.mono (T := fun b => b = w4.heap.size ∨ b = w1.heap.size) (fun _ _ h => Or.inl h) |>.trans (hset2.2.mono (T := fun b => b = w4.heap.size ∨ b = w1.heap.size) (fun _ _ h => Or.inr h))
              have hq1 := hide hset2.1
              have hq2 := hide (hB28.out.chg hch (by (try dsimp only); omega))
              have hq3 := hide (ho8'.out.chg hch (fun b h1 h2 h3 => by (try dsimp only at h3); omega))
              have hq4 := hide (hcu8.stays hch (fun b h => by (try dsimp only); omega))
              have hq5 := hide (hgw8.trans (hch.mono (T := fun b => b = p ∨ w.heap.size ≤ b) (fun b _ h => by (try dsimp only at h ⊢); omega)))
              have hq6 := hch.size
              clear hset1 hset2 hch
              unfold set6 at hq1 hq2 hq3 hq4 hq5 hq6
              go_wp2
              go_roundw
              case rel => exact ⟨k - 1, _, _, _, rfl, by omega, by omega, okq, hq1.out, hq2.out, hq3.out.mono (by omega) hq6, hq4.out, hq5.out, by omega⟩
              case measure => simp [intOf]; omega
          · have e2e : (q == 2) = false := by simp [e2]
            clear e0 e1 e2
            replace hB3 := hide hB3
            replace hBx := hide hBx
            obtain ⟨b30, b31, b32, b33, b34, b35, b3F⟩ := hB3.out
            obtain ⟨bx0, bx1, bx2, bx3, bx4, bx5, bxF⟩ := hBx.out
            go_wp2_with fail
            refine (rda_spec _ r o d false ao cap _ hown.read hok hm (by omega) (by omega)).mono ?_
            rintro en w6 ⟨ao6, cap6, rfl, ho6, hb6⟩
            have hz6 := hb6.size
            have okq := rdaV_ok (off := o) (data := d) (fin := false) hok
            rw [hm1] at okq
            replace hBx := hBx.out.ext hb6
            replace hB3 := hB3.out.ext hb6
            replace hB2 := hB2.ext hb6
            replace hgw := hgw.trans (hb6.chg _)
            have hcu6 := hcu5.ext hb6
            clear b30 b31 b32 b33 b34 b35 b3F bx0 bx1 bx2 bx3 bx4 bx5 bxF hown hb6 hcu5 hokn
            generalize rdaV r o d false = qv at *
            have hB3' := hB3
            have hBx' := hBx
            obtain ⟨b30, b31, b32, b33, b34, b35, b3F⟩ := hB3'
            obtain ⟨bx0, bx1, bx2, bx3, bx4, bx5, bxF⟩ := hBx'
            have kx6 : w4.heap.size < w6.heap.size := by omega
            have k36 : w1.heap.size < w6.heap.size := by omega
            have ho6' := OwnC.mono (lo' := w5.heap.size) ho6 (Nat.le_refl _) (Nat.le_refl _)
            have hset1 := BoxRv.set hBx qv ao6 cap6
            have hset2 := BoxRv.set (hB3.chg hset1.2 (by (try dsimp only); omega)) qv ao6 cap6
            have hch := hset1.2.mono (T := fun b => b = w4.heap.size ∨ b = w1.heap.size) (fun _ _ h => Or.inl h) |>.trans (hset2.2.mono (T := fun b => b = w4.heap.size ∨ b = w1.heap.size) (fun _ _ h => Or.inr h))
            have hq1 := hide hset2.1
            have hq2 := hide (hB2.chg hch (by (try dsimp only); omega))
            have hq3 := hide (ho6'.chg hch (fun b h1 h2 h3 => by (try dsimp only at h3); omega))
            have hq4 := hide (hcu6.stays hch (fun b h => by (try dsimp only); omega))
            have hq5 := hide (hgw.trans (hch.mono (T := fun b => b = p ∨ w.heap.size ≤ b) (fun b _ h => by (try dsimp only at h ⊢); omega)))
            have hq6 := hch.size
            clear hset1 hset2 hch
            unfold set6 at hq1 hq2 hq3 hq4 hq5 hq6
            go_wp2
            go_roundw
            case rel => exact ⟨k - 1, _, _, _, rfl, by omega, by omega, okq, hq1.out, hq2.out, hq3.out.mono (by omega) hq6, hq4.out, hq5.out, by omega⟩
            case measure => simp [intOf]; omega
    · obtain rfl : k = 0 := by omega
      have hset := BoxRv.set hB2 r ao cap
      have hB2' := hide hB2
      obtain ⟨b30, b31, b32, b33, b34, b35, b3F⟩ := hB3
      obtain ⟨b20, b21, b22, b23, b24, b25, b2F⟩ := hB2
      have hne : w.heap.size ≠ w1.heap.size := by omega
      have k2 : w.heap.size < wr.heap.size := by omega
      have k3 : w1.heap.size < wr.heap.size := by omega
      go_wp2
      unfold set6 at hset
      refine bodyPost_ret (v := .agg #[.int .i64 r.st, .int .i64 r.nx, .slice ao r.cs.length cap, .int .i64 r.fi, .int .i64 r.hg, .int .i64 r.co]) (by simp [results, Try.results105, go_sem, *]) rfl ⟨r, ao, cap, rfl, hok.mono (by omega), ?_, ?_, ?_⟩
      · exact (hown.chg hset.2 (fun b h1 h2 h3 => by (try dsimp only at h3); omega)).mono (by omega) hset.2.size
      · exact hcu.stays hset.2 (fun b h => by (try dsimp only); omega)
      · exact (hgw.trans (hset.2.mono (T := fun b => b = p ∨ w.heap.size ≤ b) (fun b _ h => by (try dsimp only at h ⊢); omega))).mono (fun b hb h => by (try dsimp only at h ⊢); omega)
end Go.Proofs.Ytifhbchlmlaanaa
