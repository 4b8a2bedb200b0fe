/-
  Part of the proof: SnNw, SnY, SnYA, SnZ.
-/
import Derived.Deep.DeepCutAuto
import Derived.Test.YtjhgcbchdnoleaaPSnX
namespace Go.Proofs.Ytjhgcbchdnoleaa
section
open Go.ChangeShapes Go.WideShapes Go.ChangeAt Go.RowKit
set_option linter.unusedSimpArgs false
set_option linter.unusedVariables false
def nwSn (n : Int) : Sn := if ringSz n = true then newSn n else ⟨0, 0, 0, 0, [], [], [], [], 0, 0, 0, 0⟩
theorem own_ringV {lo hi : Nat} {w : World} {ao : Option Addr} {xs : List Int} (h : OwnS lo hi w ao xs) (hle : lo ≤ hi) : OwnSnV lo hi w ⟨ao, none, none, none⟩ 0 ⟨xs, [], [], []⟩ :=
  ⟨lo, hi, lo, lo, lo, lo, lo, lo, ⟨⟨Nat.le_refl _, Nat.le_refl _⟩, ⟨Nat.le_refl _, hle⟩, ⟨Nat.le_refl _, hle⟩, ⟨Nat.le_refl _, hle⟩⟩, ⟨Or.inr (Nat.le_refl _), Or.inr (Nat.le_refl _), Or.inr (Nat.le_refl _), Or.inl (Nat.le_refl _), Or.inl (Nat.le_refl _), Or.inl (Nat.le_refl _)⟩, h, OwnW.nil _ _, Or.inl rfl, Or.inl rfl⟩
set_option maxHeartbeats 1000000 in
theorem NewSender_specV (n : Int) (w : World) : Calls Try.prog 30 #[.int .i64 n] w (SnRes (nwSn n) (.bool (ringSz n)) w) := by
  rcases Bool.eq_false_or_eq_true (ringSz n) with h | h
  · obtain ⟨k, rfl⟩ : ∃ k : Nat, n = k := ⟨n.toNat, by have := ringSz_bd h; omega⟩
    have e : nwSn k = newSn k := if_pos h
    have e2 := hide h
    go_enter Try.func30, Try.ntmps30
    go_wp2_with fail
    refine (NewRing_spec_yes k _ h).mono ?_
    rintro en w1 ⟨d1, cd1, rfl, ho, hb⟩
    have hs := hb.size
    simp at hs
    have k0 : w.heap.size < w1.heap.size := by omega
    obtain ⟨xb, yb⟩ := hb.row (k := w.heap.size) xpf
    clear h
    replace e := hide e
    go_wp2
    rw [e.out, e2.out]
    refine bodyPost_ret (v := .tuple #[.agg #[.int .i64 0, .int .i64 k, .int .i64 0, .int .i64 0, .slice d1 k cd1, .slice none 0 0, .slice none 0 0, .slice none 0 0, .int .i64 (-1), .int .i64 0, .int .i64 0, .int .i64 0], .bool true]) (by simp [results, Try.results30, go_sem, *]) rfl ⟨d1, none, none, none, cd1, 0, 0, 0, by simp [newSn], ?_, ?_⟩
    · show OwnSnV _ _ _ _ _ ⟨List.replicate ((k : Int).toNat) 0, [], [], []⟩
      rw [Int.toNat_natCast]
      exact own_ringV (OwnS.mono (OwnS.chg (S := fun b => b = w.heap.size ∨ w1.heap.size ≤ b) (OwnS.mono (lo' := w.heap.size + 1) ho (by simp) (Nat.le_refl _)) Chg.go xap) (by omega) (by simp)) xpf
    · exact Ext.go
  · have e : nwSn n = ⟨0, 0, 0, 0, [], [], [], [], 0, 0, 0, 0⟩ := if_neg (by rw [h]; decide)
    have e2 := hide h
    go_enter Try.func30, Try.ntmps30
    go_wp2_with fail
    refine (NewRing_spec_no n _ h).mono ?_
    rintro en w1 ⟨rfl, hb⟩
    have hs := hb.size
    simp at hs
    have k0 : w.heap.size < w1.heap.size := by omega
    obtain ⟨xb, yb⟩ := hb.row (k := w.heap.size) xpf
    clear h
    replace e := hide e
    go_wp2
    rw [e.out, e2.out]
    refine bodyPost_ret (v := .tuple #[.agg #[.int .i64 0, .int .i64 0, .int .i64 0, .int .i64 0, .slice none 0 0, .slice none 0 0, .slice none 0 0, .slice none 0 0, .int .i64 0, .int .i64 0, .int .i64 0, .int .i64 0], .bool false]) (by simp [results, Try.results30, go_sem, *]) rfl ⟨none, none, none, none, 0, 0, 0, 0, rfl, ?_, ?_⟩
    · exact own_ringV (Or.inl rfl) xpf
    · exact Ext.go
end
section
open Go.ChangeShapes Go.WideShapes Go.ChangeAt Go.RowKit
set_option linter.unusedSimpArgs false
set_option linter.unusedVariables false
/-- A drawn sender that meets P. -/
def DrewSn (P : Sn → Prop) (p : Nat) (code : Value) (w : World) (en : Ending) (w' : World) : Prop :=
  ∃ (s : Sn) (a : Ads) (c1 c2 c3 c4 : Nat), en = .returned (.agg #[.int .i64 s.st, .int .i64 s.z, .int .i64 s.b, .int .i64 s.e, .slice a.r s.xs.length c1, .slice a.p s.p.length c2, .slice a.f s.f.length c3, .slice a.k s.k.length c4, .int .i64 s.fi, .int .i64 s.fk, .int .i64 s.se, .int .i64 s.co]) ∧ P s ∧ OwnSnV w.heap.size w'.heap.size w' a c2 ⟨s.xs, s.p, s.f, s.k⟩ ∧ CurAt w' p code ∧ Chg (fun b => b = p) w w'
set_option maxHeartbeats 8000000 in
set_option maxRecDepth 100000 in
theorem l9Sender_any (p : Nat) (code : Value) (w : World) (hc : CurAt w p code) :
    Calls Try.prog 119 #[.pointer (some ⟨p, 0, none⟩)] w (DrewSn (SnDr 65) p code w) := by
  have hpl := hc.lt
  go_enter Try.func119, Try.ntmps119
  have hgw0 : Chg (fun b => b = p ∨ w.heap.size ≤ b) w w := Chg.refl _ _
  go_upto_region 1 with fail
  obtain ⟨w1, h0w1⟩ : ∃ u, u = (w.alloc (.cells #[.int .i64 0, .int .i64 0, .int .i64 0, .int .i64 0, .slice none 0 0, .slice none 0 0, .slice none 0 0, .slice none 0 0, .int .i64 0, .int .i64 0, .int .i64 0, .int .i64 0] 32)) := ⟨_, rfl⟩
  rw [← h0w1]
  have hw1 : Ext (w.alloc (.cells #[.int .i64 0, .int .i64 0, .int .i64 0, .int .i64 0, .slice none 0 0, .slice none 0 0, .slice none 0 0, .slice none 0 0, .int .i64 0, .int .i64 0, .int .i64 0, .int .i64 0] 32)) w1 := h0w1 ▸ Ext.go
  have gw1 : Chg (fun b => False) w w1 := Chg.trans Chg.go (Ext.chg hw1 _)
  have zw1 := hw1.size
  (try simp at zw1)
  have yw1 : w.heap.size ≤ w1.heap.size := gw1.size
  have hr_w1 := hide (BoxV.chg (BoxV.new w [.int .i64 0, .int .i64 0, .int .i64 0, .int .i64 0, .slice none 0 0, .slice none 0 0, .slice none 0 0, .slice none 0 0, .int .i64 0, .int .i64 0, .int .i64 0, .int .i64 0] 32) (S := fun b => False) (Chg.trans Chg.go (Ext.chg hw1 _)) xom)
  have hgww1 : Chg (fun b => b = p ∨ w.heap.size ≤ b) w w1 := Chg.trans hgw0 (Chg.mono (T := fun b => b = p ∨ w.heap.size ≤ b) gw1 xsub)
  have hcuw1 := hc.stays gw1 (fun b h => xom)
  clear hgw0
  clear gw1 hw1
  obtain ⟨br0, br1, br2, br3, br4, br5, br6, br7, br8, br9, br10, br11, brF, kbr⟩ := BoxV.a12 hr_w1.out
  clear h0w1
  go_wp2_with fail
  refine (l1PickInt_new p code [4, 8, 16] 3 w1 (hcuw1.stays (S := fun b => False) Chg.go (fun b h => xom)) (by decide) (by decide)).mono ?_
  rintro en w2 ⟨z, rfl, hz, hcuw2, hw2⟩
  have hz2 : z = 4 ∨ z = 8 ∨ z = 16 := by simpa using hz
  have hzr : ringSz z = true := by rcases hz2 with h | h | h <;> rw [h] <;> decide
  replace hz2 := hide hz2
  clear hz
  have gw2 : Chg (fun b => b = p) w1 w2 := Chg.trans Chg.go (Chg.mono (T := fun b => b = p) hw2 xsub)
  have zw2 := hw2.size
  (try simp at zw2)
  have yw2 : w1.heap.size ≤ w2.heap.size := gw2.size
  have hr_w2 := hide (hr_w1.out.chg gw2 xom)
  have hgww2 : Chg (fun b => b = p ∨ w.heap.size ≤ b) w w2 := Chg.trans hgww1 (Chg.mono (T := fun b => b = p ∨ w.heap.size ≤ b) gw2 xsub)
  clear hr_w1 hgww1 hcuw1 br0 br1 br2 br3 br4 br5 br6 br7 br8 br9 br10 br11 brF kbr
  clear gw2 hw2
  obtain ⟨br0, br1, br2, br3, br4, br5, br6, br7, br8, br9, br10, br11, brF, kbr⟩ := BoxV.a12 hr_w2.out
  go_wp2_with fail
  refine (NewSender_specV z _).mono ?_
  rintro en w3 ⟨g1, g2, g3, g4, k1, k2, k3, k4, rfl, owng, hw3⟩
  obtain ⟨t, ht⟩ : ∃ t, Hid (nwSn z = t) := ⟨_, hide rfl⟩
  have hdr : SnDr 0 t := by rw [← ht.out]; unfold nwSn; rw [if_pos hzr]; exact SnDr.new hz2.out
  rw [ht.out] at owng ⊢
  rw [hzr]
  replace hdr := hide hdr
  clear hzr hz2 ht
  have gw3 : Chg (fun b => False) w2 w3 := Chg.trans Chg.go (Ext.chg hw3 _)
  have zw3 := hw3.size
  (try simp at zw3)
  have yw3 : w2.heap.size ≤ w3.heap.size := gw3.size
  have hr_w3 := hide (hr_w2.out.chg gw3 xom)
  have hgww3 : Chg (fun b => b = p ∨ w.heap.size ≤ b) w w3 := Chg.trans hgww2 (Chg.mono (T := fun b => b = p ∨ w.heap.size ≤ b) gw3 xsub)
  have hcuw3 := hcuw2.stays gw3 (fun b h => xom)
  clear hr_w2 hgww2 hcuw2 br0 br1 br2 br3 br4 br5 br6 br7 br8 br9 br10 br11 brF kbr
  clear gw3 hw3
  obtain ⟨br0, br1, br2, br3, br4, br5, br6, br7, br8, br9, br10, br11, brF, kbr⟩ := BoxV.a12 hr_w3.out
  (try simp only [World.size_alloc, World.size_drew, World.size_setCell] at owng)
  replace owng := hide owng
  go_wp2_with fail
  refine (l1Below_pos p code 14 _ (by omega) (hcuw3.stays (S := fun b => False) Chg.go (fun b h => xom))).mono ?_
  rintro en w4 ⟨n0, rfl, ⟨n1, n2⟩, hcuw4, hw4⟩
  have gw4 : Chg (fun b => b = p) w3 w4 := Chg.trans Chg.go (Chg.mono (T := fun b => b = p) hw4 xsub)
  have zw4 := hw4.size
  (try simp at zw4)
  have yw4 : w3.heap.size ≤ w4.heap.size := gw4.size
  have hr_w4 := hide (hr_w3.out.chg gw4 xom)
  have hx_w4 := hide (BoxV.chg (BoxV.new w3 [.int .i64 t.st, .int .i64 t.z, .int .i64 t.b, .int .i64 t.e, .slice g1 t.xs.length k1, .slice g2 t.p.length k2, .slice g3 t.f.length k3, .slice g4 t.k.length k4, .int .i64 t.fi, .int .i64 t.fk, .int .i64 t.se, .int .i64 t.co] 32) (S := fun b => b = p) (Chg.trans Chg.go (Chg.mono (T := fun b => b = p) hw4 xsub)) xom)
  have ox_w4 := hide (OwnSnV.chg owng.out gw4 xap)
  have hgww4 : Chg (fun b => b = p ∨ w.heap.size ≤ b) w w4 := Chg.trans hgww3 (Chg.mono (T := fun b => b = p ∨ w.heap.size ≤ b) gw4 xsub)
  clear hr_w3 owng hgww3 hcuw3 br0 br1 br2 br3 br4 br5 br6 br7 br8 br9 br10 br11 brF kbr
  clear gw4 hw4
  obtain ⟨br0, br1, br2, br3, br4, br5, br6, br7, br8, br9, br10, br11, brF, kbr⟩ := BoxV.a12 hr_w4.out
  obtain ⟨bx0, bx1, bx2, bx3, bx4, bx5, bx6, bx7, bx8, bx9, bx10, bx11, bxF, kbx⟩ := BoxV.a12 hx_w4.out
  have ⟨nerx, nexr⟩ := ne2 (show w.heap.size ≠ w3.heap.size by omega)
  have hobx := hide (OwnSnB.of (B := w3.heap.size) (hi' := w4.heap.size) ox_w4.out (by omega) (by omega))
  go_wp2_with fail
  go_loopw [5] (fun i wr => ∃ (k : Int) (t : Sn) (g : Ads) (k1 k2 k3 k4 : Nat), i = .int .i64 k ∧ 0 ≤ k ∧ k ≤ n0 ∧ SnDr (5 * (n0 - k)) t ∧ BoxV (w.heap.size) wr [.int .i64 0, .int .i64 0, .int .i64 0, .int .i64 0, .slice none 0 0, .slice none 0 0, .slice none 0 0, .slice none 0 0, .int .i64 0, .int .i64 0, .int .i64 0, .int .i64 0] ∧ BoxV (w3.heap.size) wr [.int .i64 t.st, .int .i64 t.z, .int .i64 t.b, .int .i64 t.e, .slice g.r t.xs.length k1, .slice g.p t.p.length k2, .slice g.f t.f.length k3, .slice g.k t.k.length k4, .int .i64 t.fi, .int .i64 t.fk, .int .i64 t.se, .int .i64 t.co] ∧ OwnSnB (w3.heap.size) (w.heap.size + 1) wr.heap.size wr g k2 ⟨t.xs, t.p, t.f, t.k⟩ ∧ CurAt wr p code ∧ Chg (fun b => b = p ∨ w.heap.size ≤ b) w wr ∧ w4.heap.size ≤ wr.heap.size) (fun i _ => (intOf i).toNat)
  case atStart => exact ⟨n0, t, ⟨g1, g2, g3, g4⟩, k1, k2, k3, k4, rfl, n1, Int.le_refl _, hdr.out.mono (by omega), hr_w4.out, hx_w4.out, hobx.out.mono (by omega) (Nat.le_refl _), hcuw4, hgww4, Nat.le_refl _⟩
  case round =>
    clear hobx hdr br0 br1 br2 br3 br4 br5 br6 br7 br8 br9 br10 br11 brF kbr bx0 bx1 bx2 bx3 bx4 bx5 bx6 bx7 bx8 bx9 bx10 bx11 bxF kbx nerx nexr hr_w4 hx_w4 ox_w4 hcuw4 hgww4
    obtain ⟨k, t, g, k1, k2, k3, k4, rfl, j0, j1, hdr, hBr, hBx, hown, hcu, hgw, hsz⟩ := hrel
    replace hBr := hide hBr
    replace hBx := hide hBx
    replace hown := hide hown
    replace hdr := hide hdr
    obtain ⟨br0, br1, br2, br3, br4, br5, br6, br7, br8, br9, br10, br11, brF, kbr⟩ := BoxV.a12 hBr.out
    obtain ⟨bx0, bx1, bx2, bx3, bx4, bx5, bx6, bx7, bx8, bx9, bx10, bx11, bxF, kbx⟩ := BoxV.a12 hBx.out
    have ⟨nerx, nexr⟩ := ne2 (show w.heap.size ≠ w3.heap.size by omega)
    by_cases hlt : 0 < k
    · skip
      go_wp2_with fail
      refine (l9Step_any (5 * (n0 - k)) p code t g k1 k2 k3 k4 (w.heap.size + 1) wr.heap.size (w3.heap.size) _ (hcu.stays (S := fun b => False) Chg.go (fun b h => xom)) hdr.out (OwnSnB.chg (S := fun b => b = p) hown.out Chg.go xap) (by first | omega | (simp; omega)) (by omega) (by omega) (by first | omega | (simp; omega)) (by omega)).mono ?_
      rintro en b5 ⟨t2, e, m1, m2, m3, m4, rfl, hdr2, owne, hcub5, hb5⟩
      replace hdr2 := hide hdr2
      replace owne := hide owne
      have gb5 : Chg (fun b => b = p) wr b5 := Chg.trans Chg.go (Chg.mono (T := fun b => b = p) hb5 xsub)
      have zb5 := hb5.size
      (try simp at zb5)
      have yb5 : wr.heap.size ≤ b5.heap.size := gb5.size
      have hr_b5 := hide (hBr.out.chg gb5 xom)
      have hx_b5 := hide (hBx.out.chg gb5 xom)
      have ox_b5 := hide (OwnSnB.chg hown.out gb5 xap)
      have hgwb5 : Chg (fun b => b = p ∨ w.heap.size ≤ b) w b5 := Chg.trans hgw (Chg.mono (T := fun b => b = p ∨ w.heap.size ≤ b) gb5 xsub)
      clear hBr hBx hown hgw hcu br0 br1 br2 br3 br4 br5 br6 br7 br8 br9 br10 br11 brF kbr bx0 bx1 bx2 bx3 bx4 bx5 bx6 bx7 bx8 bx9 bx10 bx11 bxF kbx nerx nexr
      clear gb5 hb5
      obtain ⟨br0, br1, br2, br3, br4, br5, br6, br7, br8, br9, br10, br11, brF, kbr⟩ := BoxV.a12 hr_b5.out
      obtain ⟨bx0, bx1, bx2, bx3, bx4, bx5, bx6, bx7, bx8, bx9, bx10, bx11, bxF, kbx⟩ := BoxV.a12 hx_b5.out
      have ⟨nerx, nexr⟩ := ne2 (show w.heap.size ≠ w3.heap.size by omega)
      have hset := BoxV.set hx_b5.out [.int .i64 t2.st, .int .i64 t2.z, .int .i64 t2.b, .int .i64 t2.e, .slice e.r t2.xs.length m1, .slice e.p t2.p.length m2, .slice e.f t2.f.length m3, .slice e.k t2.k.length m4, .int .i64 t2.fi, .int .i64 t2.fk, .int .i64 t2.se, .int .i64 t2.co] rfl
      simp only [setFrom, Nat.zero_add, Nat.reduceAdd] at hset
      have hzr := hide (hr_b5.out.chg hset.2 xom)
      have hzx := hide hset.1
      have ozx := hide (OwnSnB.chg owne.out hset.2 xap)
      have uz := hcub5.stays hset.2 (fun b h => xom)
      have gz := hgwb5.trans (hset.2.mono (T := fun b => b = p ∨ w.heap.size ≤ b) xsub)
      have sz := hset.2.size
      clear hset
      go_wp2
      go_roundw
      case rel => exact ⟨k - 1, t2, e, m1, m2, m3, m4, by go_num, by omega, by omega, hdr2.out.mono (by omega), hzr.out, hzx.out, ozx.out.mono (Nat.le_refl _) (by omega), uz, gz, by omega⟩
      case measure => simp [intOf]; omega
    · obtain rfl : k = 0 := by omega
      go_wp2
      refine bodyPost_ret (v := .agg #[.int .i64 t.st, .int .i64 t.z, .int .i64 t.b, .int .i64 t.e, .slice g.r t.xs.length k1, .slice g.p t.p.length k2, .slice g.f t.f.length k3, .slice g.k t.k.length k4, .int .i64 t.fi, .int .i64 t.fk, .int .i64 t.se, .int .i64 t.co]) (by simp [results, Try.results119, go_sem, *]) rfl ⟨t, g, k1, k2, k3, k4, rfl, hdr.out.mono (by omega), ?_, (hcu.stays (S := fun b => b = w.heap.size) Chg.go (fun b h => xom)), ?_⟩
      · exact OwnSnV.mono (OwnSnB.snv (OwnSnB.chg (S := fun b => b = p ∨ b = w.heap.size) hown.out Chg.go xap)) xpf xpf
      · exact Chg.mono (Chg.trans hgw (Chg.mono (S := fun b => b = p ∨ b = w.heap.size) (T := fun b => b = p ∨ w.heap.size ≤ b) Chg.go xsub)) (fun b h1 h2 => by (try dsimp only at h2 ⊢); omega)
end
section
open Go.ChangeShapes Go.WideShapes Go.ChangeAt Go.RowKit
set_option linter.unusedSimpArgs false
set_option linter.unusedVariables false
theorem ownsUp {w : World} {base : Nat} {e : TypeId} {size n g cap : Nat} {xs : List Value} (h : w.ownsRow base e size (.slice (some ⟨g, 0, none⟩) n cap) n xs) : w.ownsRow g e size (.slice (some ⟨g, 0, none⟩) n cap) n xs := by
  obtain ⟨hl, h | ⟨g', cap', cur, hv, hb, r⟩⟩ := h
  · exact absurd h.1 (by simp)
  · have e1 : g = g' := by
      have := hv
      simp only [Value.slice.injEq, Option.some.injEq, Addr.mk.injEq] at this
      exact this.1.1
    exact ⟨hl, Or.inr ⟨g', cap', cur, hv, Nat.le_of_eq e1, r⟩⟩
set_option maxHeartbeats 8000000 in
set_option maxRecDepth 100000 in
theorem l9Any_any (p : Nat) (code : Value) (w : World) (hc : CurAt w p code) :
    Calls Try.prog 63 #[.pointer (some ⟨p, 0, none⟩)] w (DrewSn SnAny p code w) := by
  have hpl := hc.lt
  go_enter Try.func63, Try.ntmps63
  have hgw0 : Chg (fun b => b = p ∨ w.heap.size ≤ b) w w := Chg.refl _ _
  go_wp2_with fail
  refine (l9Sender_any p code _ (hc.stays (S := fun b => False) Chg.go (fun b h => xom))).mono ?_
  rintro en w1 ⟨s, a, c1, c2, c3, c4, rfl, hdr, owng, hcuw1, hw1⟩
  replace hdr := hide hdr
  have gw1 : Chg (fun b => b = p) w w1 := Chg.trans Chg.go (Chg.mono (T := fun b => b = p) hw1 xsub)
  have zw1 := hw1.size
  (try simp at zw1)
  have yw1 : w.heap.size ≤ w1.heap.size := gw1.size
  have hr_w1 := hide (BoxV.chg (BoxV.new w [.int .i64 0, .int .i64 0, .int .i64 0, .int .i64 0, .slice none 0 0, .slice none 0 0, .slice none 0 0, .slice none 0 0, .int .i64 0, .int .i64 0, .int .i64 0, .int .i64 0] 32) (S := fun b => b = p) (Chg.trans Chg.go (Chg.mono (T := fun b => b = p) hw1 xsub)) xom)
  have hgww1 : Chg (fun b => b = p ∨ w.heap.size ≤ b) w w1 := Chg.trans hgw0 (Chg.mono (T := fun b => b = p ∨ w.heap.size ≤ b) gw1 xsub)
  clear hgw0
  clear gw1 hw1
  obtain ⟨br0, br1, br2, br3, br4, br5, br6, br7, br8, br9, br10, br11, brF, kbr⟩ := BoxV.a12 hr_w1.out
  (try simp only [World.size_alloc, World.size_drew, World.size_setCell] at owng)
  replace owng := hide owng
  go_wp2_with fail
  refine (l1Below_pos p code 16 _ (by omega) (hcuw1.stays (S := fun b => False) Chg.go (fun b h => xom))).mono ?_
  rintro en w2 ⟨y, rfl, ⟨y0, y1⟩, hcuw2, hw2⟩
  have gw2 : Chg (fun b => b = p) w1 w2 := Chg.trans Chg.go (Chg.mono (T := fun b => b = p) hw2 xsub)
  have zw2 := hw2.size
  (try simp at zw2)
  have yw2 : w1.heap.size ≤ w2.heap.size := gw2.size
  have hr_w2 := hide (hr_w1.out.chg gw2 xom)
  have hx_w2 := hide (BoxV.chg (BoxV.new w1 [.int .i64 s.st, .int .i64 s.z, .int .i64 s.b, .int .i64 s.e, .slice a.r s.xs.length c1, .slice a.p s.p.length c2, .slice a.f s.f.length c3, .slice a.k s.k.length c4, .int .i64 s.fi, .int .i64 s.fk, .int .i64 s.se, .int .i64 s.co] 32) (S := fun b => b = p) (Chg.trans Chg.go (Chg.mono (T := fun b => b = p) hw2 xsub)) xom)
  have ox_w2 := hide (OwnSnV.chg owng.out gw2 xap)
  have hgww2 : Chg (fun b => b = p ∨ w.heap.size ≤ b) w w2 := Chg.trans hgww1 (Chg.mono (T := fun b => b = p ∨ w.heap.size ≤ b) gw2 xsub)
  clear hr_w1 owng hgww1 hcuw1 br0 br1 br2 br3 br4 br5 br6 br7 br8 br9 br10 br11 brF kbr
  clear gw2 hw2
  obtain ⟨br0, br1, br2, br3, br4, br5, br6, br7, br8, br9, br10, br11, brF, kbr⟩ := BoxV.a12 hr_w2.out
  obtain ⟨bx0, bx1, bx2, bx3, bx4, bx5, bx6, bx7, bx8, bx9, bx10, bx11, bxF, kbx⟩ := BoxV.a12 hx_w2.out
  have ⟨nerx, nexr⟩ := ne2 (show w.heap.size ≠ w1.heap.size by omega)
  by_cases tq0 : y = 0
  · have te0 : (y == 0) = true := by simp [tq0]
    replace tq0 := hide tq0
    go_wp2_with fail
    refine (l1Below_pos p code 8 _ (by omega) (hcuw2.stays (S := fun b => False) Chg.go (fun b h => xom))).mono ?_
    rintro en w3 ⟨u, rfl, ⟨u0, u1⟩, hcuw3, hw3⟩
    have huw : IntKind.i64.wrap (u - 1) = u - 1 := IntWalk.i64_in _ (by omega)
    have gw3 : Chg (fun b => b = p) w2 w3 := Chg.trans Chg.go (Chg.mono (T := fun b => b = p) hw3 xsub)
    have zw3 := hw3.size
    (try simp at zw3)
    have yw3 : w2.heap.size ≤ w3.heap.size := gw3.size
    have hr_w3 := hide (hr_w2.out.chg gw3 xom)
    have hx_w3 := hide (hx_w2.out.chg gw3 xom)
    have ox_w3 := hide (OwnSnV.chg ox_w2.out gw3 xap)
    have hgww3 : Chg (fun b => b = p ∨ w.heap.size ≤ b) w w3 := Chg.trans hgww2 (Chg.mono (T := fun b => b = p ∨ w.heap.size ≤ b) gw3 xsub)
    clear hr_w2 hx_w2 ox_w2 hgww2 hcuw2 br0 br1 br2 br3 br4 br5 br6 br7 br8 br9 br10 br11 brF kbr bx0 bx1 bx2 bx3 bx4 bx5 bx6 bx7 bx8 bx9 bx10 bx11 bxF kbx nerx nexr
    clear gw3 hw3
    obtain ⟨br0, br1, br2, br3, br4, br5, br6, br7, br8, br9, br10, br11, brF, kbr⟩ := BoxV.a12 hr_w3.out
    obtain ⟨bx0, bx1, bx2, bx3, bx4, bx5, bx6, bx7, bx8, bx9, bx10, bx11, bxF, kbx⟩ := BoxV.a12 hx_w3.out
    have ⟨nerx, nexr⟩ := ne2 (show w.heap.size ≠ w1.heap.size by omega)
    have hset := BoxV.set1 hx_w3.out (j := 0) (by simp) (.int .i64 (u - 1))
    simp only [List.set_cons_zero, List.set_cons_succ] at hset
    have hzr := hide (hr_w3.out.chg hset.2 xom)
    have hzx := hide hset.1
    have ozx := hide (OwnSnV.chg ox_w3.out hset.2 xap)
    have uz := hcuw3.stays hset.2 (fun b h => xom)
    have gz := hgww3.trans (hset.2.mono (T := fun b => b = p ∨ w.heap.size ≤ b) xsub)
    have sz := hset.2.size
    clear hset
    go_wp2
    refine bodyPost_ret (v := .agg #[.int .i64 (u - 1), .int .i64 s.z, .int .i64 s.b, .int .i64 s.e, .slice a.r s.xs.length c1, .slice a.p s.p.length c2, .slice a.f s.f.length c3, .slice a.k s.k.length c4, .int .i64 s.fi, .int .i64 s.fk, .int .i64 s.se, .int .i64 s.co]) (by simp [results, Try.results63, go_sem, *]) rfl ⟨⟨(u - 1), s.z, s.b, s.e, s.xs, s.p, s.f, s.k, s.fi, s.fk, s.se, s.co⟩, a, c1, c2, c3, c4, rfl, (hdr.out.any (by omega) (u - 1) s.fk s.se (by omega) (hdr.out.bds (by omega)).2.1 (hdr.out.bds (by omega)).2.2.1), ?_, (uz.stays (S := fun b => b = w.heap.size) Chg.go (fun b h => xom)), ?_⟩
    · exact OwnSnV.mono (OwnSnV.chg (S := fun b => b = p ∨ b = w.heap.size) ozx.out Chg.go xap) xpf xpf
    · exact Chg.mono (Chg.trans gz (Chg.mono (S := fun b => b = p ∨ b = w.heap.size) (T := fun b => b = p ∨ w.heap.size ≤ b) Chg.go xsub)) (fun b h1 h2 => by (try dsimp only at h2 ⊢); omega)
  have te0 : (y == 0) = false := by simp [tq0]
  by_cases tq1 : y = 1
  · have te1 : (y == 1) = true := by simp [tq1]
    replace tq1 := hide tq1
    go_wp2_with fail
    refine (l1Below_pos p code 6 _ (by omega) (hcuw2.stays (S := fun b => False) Chg.go (fun b h => xom))).mono ?_
    rintro en w3 ⟨u, rfl, ⟨u0, u1⟩, hcuw3, hw3⟩
    have huw : IntKind.i64.wrap (u - 1) = u - 1 := IntWalk.i64_in _ (by omega)
    have gw3 : Chg (fun b => b = p) w2 w3 := Chg.trans Chg.go (Chg.mono (T := fun b => b = p) hw3 xsub)
    have zw3 := hw3.size
    (try simp at zw3)
    have yw3 : w2.heap.size ≤ w3.heap.size := gw3.size
    have hr_w3 := hide (hr_w2.out.chg gw3 xom)
    have hx_w3 := hide (hx_w2.out.chg gw3 xom)
    have ox_w3 := hide (OwnSnV.chg ox_w2.out gw3 xap)
    have hgww3 : Chg (fun b => b = p ∨ w.heap.size ≤ b) w w3 := Chg.trans hgww2 (Chg.mono (T := fun b => b = p ∨ w.heap.size ≤ b) gw3 xsub)
    clear hr_w2 hx_w2 ox_w2 hgww2 hcuw2 br0 br1 br2 br3 br4 br5 br6 br7 br8 br9 br10 br11 brF kbr bx0 bx1 bx2 bx3 bx4 bx5 bx6 bx7 bx8 bx9 bx10 bx11 bxF kbx nerx nexr
    clear gw3 hw3
    obtain ⟨br0, br1, br2, br3, br4, br5, br6, br7, br8, br9, br10, br11, brF, kbr⟩ := BoxV.a12 hr_w3.out
    obtain ⟨bx0, bx1, bx2, bx3, bx4, bx5, bx6, bx7, bx8, bx9, bx10, bx11, bxF, kbx⟩ := BoxV.a12 hx_w3.out
    have ⟨nerx, nexr⟩ := ne2 (show w.heap.size ≠ w1.heap.size by omega)
    have hset := BoxV.set1 hx_w3.out (j := 9) (by simp) (.int .i64 (u - 1))
    simp only [List.set_cons_zero, List.set_cons_succ] at hset
    have hzr := hide (hr_w3.out.chg hset.2 xom)
    have hzx := hide hset.1
    have ozx := hide (OwnSnV.chg ox_w3.out hset.2 xap)
    have uz := hcuw3.stays hset.2 (fun b h => xom)
    have gz := hgww3.trans (hset.2.mono (T := fun b => b = p ∨ w.heap.size ≤ b) xsub)
    have sz := hset.2.size
    clear hset
    go_wp2
    refine bodyPost_ret (v := .agg #[.int .i64 s.st, .int .i64 s.z, .int .i64 s.b, .int .i64 s.e, .slice a.r s.xs.length c1, .slice a.p s.p.length c2, .slice a.f s.f.length c3, .slice a.k s.k.length c4, .int .i64 s.fi, .int .i64 (u - 1), .int .i64 s.se, .int .i64 s.co]) (by simp [results, Try.results63, go_sem, *]) rfl ⟨⟨s.st, s.z, s.b, s.e, s.xs, s.p, s.f, s.k, s.fi, (u - 1), s.se, s.co⟩, a, c1, c2, c3, c4, rfl, (hdr.out.any (by omega) s.st (u - 1) s.se (hdr.out.bds (by omega)).1 (by omega) (hdr.out.bds (by omega)).2.2.1), ?_, (uz.stays (S := fun b => b = w.heap.size) Chg.go (fun b h => xom)), ?_⟩
    · exact OwnSnV.mono (OwnSnV.chg (S := fun b => b = p ∨ b = w.heap.size) ozx.out Chg.go xap) xpf xpf
    · exact Chg.mono (Chg.trans gz (Chg.mono (S := fun b => b = p ∨ b = w.heap.size) (T := fun b => b = p ∨ w.heap.size ≤ b) Chg.go xsub)) (fun b h1 h2 => by (try dsimp only at h2 ⊢); omega)
  have te1 : (y == 1) = false := by simp [tq1]
  by_cases tq2 : y = 2
  · have te2 : (y == 2) = true := by simp [tq2]
    replace tq2 := hide tq2
    go_wp2_with fail
    refine (l1PickInt_new p code [-1, 0, 3, 50] 3 w2 (hcuw2.stays (S := fun b => False) Chg.go (fun b h => xom)) (by decide) (by decide)).mono ?_
    rintro en w3 ⟨v, rfl, hv, hcuw3, hw3⟩
    have hvb : -1 ≤ v ∧ v ≤ 1000 := by simp at hv; omega
    clear hv
    have gw3 : Chg (fun b => b = p) w2 w3 := Chg.trans Chg.go (Chg.mono (T := fun b => b = p) hw3 xsub)
    have zw3 := hw3.size
    (try simp at zw3)
    have yw3 : w2.heap.size ≤ w3.heap.size := gw3.size
    have hr_w3 := hide (hr_w2.out.chg gw3 xom)
    have hx_w3 := hide (hx_w2.out.chg gw3 xom)
    have ox_w3 := hide (OwnSnV.chg ox_w2.out gw3 xap)
    have hgww3 : Chg (fun b => b = p ∨ w.heap.size ≤ b) w w3 := Chg.trans hgww2 (Chg.mono (T := fun b => b = p ∨ w.heap.size ≤ b) gw3 xsub)
    clear hr_w2 hx_w2 ox_w2 hgww2 hcuw2 br0 br1 br2 br3 br4 br5 br6 br7 br8 br9 br10 br11 brF kbr bx0 bx1 bx2 bx3 bx4 bx5 bx6 bx7 bx8 bx9 bx10 bx11 bxF kbx nerx nexr
    clear gw3 hw3
    obtain ⟨br0, br1, br2, br3, br4, br5, br6, br7, br8, br9, br10, br11, brF, kbr⟩ := BoxV.a12 hr_w3.out
    obtain ⟨bx0, bx1, bx2, bx3, bx4, bx5, bx6, bx7, bx8, bx9, bx10, bx11, bxF, kbx⟩ := BoxV.a12 hx_w3.out
    have ⟨nerx, nexr⟩ := ne2 (show w.heap.size ≠ w1.heap.size by omega)
    have hset := BoxV.set1 hx_w3.out (j := 10) (by simp) (.int .i64 v)
    simp only [List.set_cons_zero, List.set_cons_succ] at hset
    have hzr := hide (hr_w3.out.chg hset.2 xom)
    have hzx := hide hset.1
    have ozx := hide (OwnSnV.chg ox_w3.out hset.2 xap)
    have uz := hcuw3.stays hset.2 (fun b h => xom)
    have gz := hgww3.trans (hset.2.mono (T := fun b => b = p ∨ w.heap.size ≤ b) xsub)
    have sz := hset.2.size
    clear hset
    go_wp2
    refine bodyPost_ret (v := .agg #[.int .i64 s.st, .int .i64 s.z, .int .i64 s.b, .int .i64 s.e, .slice a.r s.xs.length c1, .slice a.p s.p.length c2, .slice a.f s.f.length c3, .slice a.k s.k.length c4, .int .i64 s.fi, .int .i64 s.fk, .int .i64 v, .int .i64 s.co]) (by simp [results, Try.results63, go_sem, *]) rfl ⟨⟨s.st, s.z, s.b, s.e, s.xs, s.p, s.f, s.k, s.fi, s.fk, v, s.co⟩, a, c1, c2, c3, c4, rfl, (hdr.out.any (by omega) s.st s.fk v (hdr.out.bds (by omega)).1 (hdr.out.bds (by omega)).2.1 hvb), ?_, (uz.stays (S := fun b => b = w.heap.size) Chg.go (fun b h => xom)), ?_⟩
    · exact OwnSnV.mono (OwnSnV.chg (S := fun b => b = p ∨ b = w.heap.size) ozx.out Chg.go xap) xpf xpf
    · exact Chg.mono (Chg.trans gz (Chg.mono (S := fun b => b = p ∨ b = w.heap.size) (T := fun b => b = p ∨ w.heap.size ≤ b) Chg.go xsub)) (fun b h1 h2 => by (try dsimp only at h2 ⊢); omega)
  have te2 : (y == 2) = false := by simp [tq2]
  by_cases tq3 : y = 3
  · have te3 : (y == 3) = true := by simp [tq3]
    replace tq3 := hide tq3
    obtain ⟨i0, hi0, hz0, hz1, hz2⟩ := info_parts infoRange
    obtain ⟨hlp, hlf, hlk⟩ := hdr.out.lens (by omega)
    go_wp2_with fail
    refine wp_region_flowC (fun b => b = p) 6 [(0, 1), (1, 1), (2, 1), (3, 0), (4, 1), (5, 0)] (by kernel_rfl) (by kernel_rfl) ?_
    (refine wpC_pure (v := ?_) rfl rfl (by rfl) ?_ ?_; rotate_left; (focus (intro ws hws; go_simp; (try with_reducible rfl); done)))
    try simp only [nrm, nrg]
    (refine wpC_pure (v := ?_) rfl rfl (by rfl) ?_ ?_; rotate_left; (focus (intro ws hws; obtain ⟨q0, p0⟩ := hws.row (k := w1.heap.size) xpf xom; go_simp; (try with_reducible rfl); done)))
    try simp only [nrm, nrg]
    (refine wpC_pure (v := ?_) rfl rfl (by rfl) ?_ ?_; rotate_left; (focus (intro ws hws; go_simp; (try with_reducible rfl); done)))
    try simp only [nrm, nrg]
    (refine wpC_call 87 ?_ rfl rfl (by rfl) ?_ ?_; rotate_left; (focus (go_simp; (try with_reducible rfl); done)))
    refine (l1Below_pos p code 9 _ (by omega) (hcuw2.stays (S := fun b => False) Chg.go (fun b h => xom))).mono ?_
    rintro en x3 ⟨u, rfl, ⟨u0, u1⟩, hcux3, hx3⟩
    refine ⟨_, rfl, hx3, ?_⟩
    try simp only [nrm, nrg]
    have gx3 : Chg (fun b => b = p) w2 x3 := Chg.trans Chg.go (Chg.mono (T := fun b => b = p) hx3 xsub)
    have zx3 := hx3.size
    (try simp at zx3)
    have yx3 : w2.heap.size ≤ x3.heap.size := gx3.size
    have hr_x3 := hide (hr_w2.out.chg gx3 xom)
    have hx_x3 := hide (hx_w2.out.chg gx3 xom)
    have ox_x3 := hide (OwnSnV.chg ox_w2.out gx3 xap)
    have hgwx3 : Chg (fun b => b = p ∨ w.heap.size ≤ b) w x3 := Chg.trans hgww2 (Chg.mono (T := fun b => b = p ∨ w.heap.size ≤ b) gx3 xsub)
    clear hr_w2 hx_w2 ox_w2 hgww2 hcuw2 br0 br1 br2 br3 br4 br5 br6 br7 br8 br9 br10 br11 brF kbr bx0 bx1 bx2 bx3 bx4 bx5 bx6 bx7 bx8 bx9 bx10 bx11 bxF kbx nerx nexr
    clear gx3 hx3
    obtain ⟨br0, br1, br2, br3, br4, br5, br6, br7, br8, br9, br10, br11, brF, kbr⟩ := BoxV.a12 hr_x3.out
    obtain ⟨bx0, bx1, bx2, bx3, bx4, bx5, bx6, bx7, bx8, bx9, bx10, bx11, bxF, kbx⟩ := BoxV.a12 hx_x3.out
    have ⟨nerx, nexr⟩ := ne2 (show w.heap.size ≠ w1.heap.size by omega)
    (refine wpC_pure (v := ?_) rfl rfl (by rfl) ?_ ?_; rotate_left; (focus (intro ws hws; go_simp; (try with_reducible rfl); done)))
    try simp only [nrm, nrg]
    refine wpC_made (.slice (some ⟨x3.heap.size, 0, none⟩) 1 1) (x3.alloc (.cells #[.int .i64 u, .int .i64 9] 61)) rfl rfl (by rfl) (by go_simp) (Chg.alloc (Chg.refl _ _) _) ?_
    try simp only [nrm, nrg]
    refine wpF_done rfl ?_
    simp only [List.drop_succ_cons, List.drop_zero, List.drop_nil]
    obtain ⟨l1, u1_, l2, u2_, l3, u3_, l4, u4_, hbb, ⟨q1, q2, q3, q4, q5, q6⟩, hoR, hoP, hoF, hoK⟩ := ox_x3.out
    dsimp only at hoR hoP hoF hoK
    obtain ⟨hoP1, hoP2⟩ := hoP
    have hoP3 := ownsBase hoP1 (Nat.min_le_left l2 x3.heap.size)
    go_wp2_with (at_builtin; refine wpList_append_lies _ rfl _ _ _ (by rfl) (Nat.min l2 x3.heap.size) 61 i0 _ 2 16 Try.underlying30 hi0 hz0 hz1 hz2 rfl (by omega) (.slice a.p s.p.length c2) s.p.length _ (by rfl) (hoP3.alloc _) ⟨x3.heap.size, 0, none⟩ 1 1 [.int .i64 u, .int .i64 9] (by rfl) (by rfl) (World.news_of_block (cs := #[.int .i64 u, .int .i64 9]) (t := 61) (fr := (0, 0)) (heap_alloc_new x3 _)) (by simp [Value.oneCell']) (by omega) (by simp [maxLen] <;> omega) (by omega) (Nat.le_trans (Nat.min_le_right l2 x3.heap.size) (by simp)) (x3.heap.size + 1) (by simp) ?_)
    intro gg capg wg hown1 hgrow1 hat1 hlt1
    have hgc : Chg (fun b => (Value.slice a.p s.p.length c2).ownBlock = some b) x3 wg := (((Ext.refl x3).alloc _).chg _).trans (grown_chg hgrow1 (fun k hk => hk))
    have hlb : ∀ b, (Value.slice a.p s.p.length c2).ownBlock = some b → l2 ≤ b ∧ b < u2_ := fun b hb => ⟨(hoP1.lt b hb).1, hoP2 b hb⟩
    rw [rgCells_app s.p (u, 9)] at hown1
    have zg := hgc.size
    have hP := ownsUp hown1
    have hat2 : (l2 ≤ gg ∧ gg < u2_) ∨ gg = x3.heap.size + 1 := hat1.elim (fun h => Or.inl (hlb gg h)) Or.inr
    have hsn : OwnSnB w1.heap.size (w.heap.size + 1) wg.heap.size wg ⟨a.r, some ⟨gg, 0, none⟩, a.f, a.k⟩ capg ⟨s.xs, s.p ++ [(u, 9)], s.f, s.k⟩ := by
      unfold Ap at *
      refine ⟨l1, u1_, gg, gg + 1, l3, u3_, l4, u4_, by omega, by omega, ?_, hoR.chg hgc (fun b k1 k2 k3 => by have := hlb b k3; omega), ⟨by rw [List.length_append]; exact hP, fun b hb => ?_⟩, hoF.chg hgc (fun b k1 k2 k3 => by have := hlb b k3; omega), hoK.chg hgc (fun b k1 k2 k3 => by have := hlb b k3; omega)⟩
      · unfold Ap; omega
      · simp only [Value.ownBlock, Option.some.injEq] at hb; omega
    replace hsn := hide hsn
    clear hgrow1 hown1 hP hoR hoP3 hoP1 hoP2 hoF hoK
    have hbr := hide (hr_x3.out.chg hgc (fun h => by have := hlb _ h; omega))
    have hbx := hide (hx_x3.out.chg hgc (fun h => by have := hlb _ h; omega))
    have hcg := hcux3.stays hgc (fun b h hb => by have := hlb b hb; omega)
    have hgg := hgwx3.trans (hgc.mono (T := fun b => b = p ∨ w.heap.size ≤ b) (fun b _ h => by have := hlb b h; (try dsimp only); omega))
    clear hgc hlb hat1 hat2 q1 q2 q3 q4 q5 q6 hbb br0 br1 br2 br3 br4 br5 br6 br7 br8 br9 br10 br11 brF kbr bx0 bx1 bx2 bx3 bx4 bx5 bx6 bx7 bx8 bx9 bx10 bx11 bxF kbx nerx nexr hr_x3 hx_x3 hcux3 hgwx3 ox_x3
    obtain ⟨br0, br1, br2, br3, br4, br5, br6, br7, br8, br9, br10, br11, brF, kbr⟩ := BoxV.a12 hbr.out
    obtain ⟨bx0, bx1, bx2, bx3, bx4, bx5, bx6, bx7, bx8, bx9, bx10, bx11, bxF, kbx⟩ := BoxV.a12 hbx.out
    have ⟨nerx, nexr⟩ := ne2 (show w.heap.size ≠ w1.heap.size by omega)
    have hset := BoxV.set1 hbx.out (j := 5) (by simp) (.slice (some ⟨gg, 0, none⟩) (s.p.length + 1) capg)
    simp only [List.set_cons_zero, List.set_cons_succ] at hset
    have hzr := hide (hbr.out.chg hset.2 xom)
    have hzx := hide hset.1
    have ozx := hide (OwnSnB.chg hsn.out hset.2 xap)
    have uz := hcg.stays hset.2 (fun b h => xom)
    have gz := hgg.trans (hset.2.mono (T := fun b => b = p ∨ w.heap.size ≤ b) xsub)
    have sz := hset.2.size
    clear hset
    go_wp2
    refine bodyPost_ret (v := .agg #[.int .i64 s.st, .int .i64 s.z, .int .i64 s.b, .int .i64 s.e, .slice a.r s.xs.length c1, .slice (some ⟨gg, 0, none⟩) (s.p.length + 1) capg, .slice a.f s.f.length c3, .slice a.k s.k.length c4, .int .i64 s.fi, .int .i64 s.fk, .int .i64 s.se, .int .i64 s.co]) (by simp [results, Try.results63, go_sem, *]) rfl ⟨⟨s.st, s.z, s.b, s.e, s.xs, s.p ++ [(u, 9)], s.f, s.k, s.fi, s.fk, s.se, s.co⟩, ⟨a.r, some ⟨gg, 0, none⟩, a.f, a.k⟩, c1, capg, c3, c4, by rw [List.length_append]; rfl, hdr.out.anyP (by omega) u (by omega), ?_, (uz.stays (S := fun b => b = w.heap.size) Chg.go (fun b h => xom)), ?_⟩
    · exact OwnSnV.mono (OwnSnB.snv (OwnSnB.chg (S := fun b => b = p ∨ b = w.heap.size) ozx.out Chg.go xap)) xpf xpf
    · exact Chg.mono (Chg.trans gz (Chg.mono (S := fun b => b = p ∨ b = w.heap.size) (T := fun b => b = p ∨ w.heap.size ≤ b) Chg.go xsub)) (fun b h1 h2 => by (try dsimp only at h2 ⊢); omega)
  have te3 : (y == 3) = false := by simp [tq3]
  go_wp2
  refine bodyPost_ret (v := .agg #[.int .i64 s.st, .int .i64 s.z, .int .i64 s.b, .int .i64 s.e, .slice a.r s.xs.length c1, .slice a.p s.p.length c2, .slice a.f s.f.length c3, .slice a.k s.k.length c4, .int .i64 s.fi, .int .i64 s.fk, .int .i64 s.se, .int .i64 s.co]) (by simp [results, Try.results63, go_sem, *]) rfl ⟨s, a, c1, c2, c3, c4, rfl, hdr.out.any0 (by omega), ?_, (hcuw2.stays (S := fun b => b = w.heap.size) Chg.go (fun b h => xom)), ?_⟩
  · exact OwnSnV.mono (OwnSnV.chg (S := fun b => b = p ∨ b = w.heap.size) ox_w2.out Chg.go xap) xpf xpf
  · exact Chg.mono (Chg.trans hgww2 (Chg.mono (S := fun b => b = p ∨ b = w.heap.size) (T := fun b => b = p ∨ w.heap.size ≤ b) Chg.go xsub)) (fun b h1 h2 => by (try dsimp only at h2 ⊢); omega)
end
section
open Go.ChangeShapes Go.WideShapes Go.ChangeAt Go.RowKit
set_option linter.unusedSimpArgs false
set_option linter.unusedVariables false
theorem any_vld {s : Sn} (h : SnAny s) (ha : actV (sndS s) s = true) : Vld s := by
  obtain ⟨h1, h2, h3⟩ := actV_iff.1 ha
  have hi : sndI s = true := h.same.trans h1
  have hr : isRst s = false := by
    simp only [isRst, Bool.or_eq_false_iff, decide_eq_false_iff_not]
    omega
  exact (act_iff (by have := h.e; omega) hr).1 hi
end
end Go.Proofs.Ytjhgcbchdnoleaa
