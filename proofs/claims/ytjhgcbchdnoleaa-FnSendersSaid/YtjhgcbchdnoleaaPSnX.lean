/-
  Part of the proof: SnX.
-/
import Derived.Deep.DeepCutAuto
import Derived.Deep.CutBlock
import Derived.Test.YtjhgcbchdnoleaaPSnW
import Derived.Test.YtjhgcbchdnoleaaPSnS
import Derived.Test.YtjhgcbchdnoleaaPSnN
import Derived.Test.YtjhgcbchdnoleaaPSnR
import Derived.Test.YtjhgcbchdnoleaaPSnL
import Derived.Test.YtjhgcbchdnoleaaPSnK
namespace Go.Proofs.Ytjhgcbchdnoleaa
section
open Go.ChangeShapes Go.WideShapes Go.ChangeAt Go.RowKit
set_option linter.unusedSimpArgs false
set_option linter.unusedVariables false
/-- A drawn sender, its slices from block lo on, none of them in block B. -/
def DrewSnB (m : Int) (B lo p : Nat) (code : Value) (w : World) (en : Ending) (w' : World) : Prop :=
  ∃ (s : Sn) (a : Ads) (c1 c2 c3 c4 : Nat), en = .returned (.agg #[.int .i64 s.st, .int .i64 s.z, .int .i64 s.b, .int .i64 s.e, .slice a.r s.xs.length c1, .slice a.p s.p.length c2, .slice a.f s.f.length c3, .slice a.k s.k.length c4, .int .i64 s.fi, .int .i64 s.fk, .int .i64 s.se, .int .i64 s.co]) ∧ SnDr m s ∧ OwnSnB B lo w'.heap.size w' a c2 ⟨s.xs, s.p, s.f, s.k⟩ ∧ CurAt w' p code ∧ Chg (fun b => b = p) w w'
theorem OwnSnB.above {B lo hi cp : Nat} {w : World} {a : Ads} {c : Con} (h : OwnSnV lo hi w a cp c) (hB : B < lo) : OwnSnB B lo hi w a cp c := by
  obtain ⟨l1, u1, l2, u2, l3, u3, l4, u4, hb, ha, h⟩ := h
  exact ⟨l1, u1, l2, u2, l3, u3, l4, u4, hb, by omega, ha, h⟩
theorem nx_bd {v : Bool} {s : Sn} {m l : Int} (h : actV v s = true → Vld s) (he : s.e ≤ 1000) : (-1 ≤ (nxP v s m l).off ∧ (nxP v s m l).off ≤ 1000) ∧ ((nxP v s m l).d.size : Int) ≤ 1000 := by
  have hz : (-1 ≤ zPc.off ∧ zPc.off ≤ 1000) ∧ (zPc.d.size : Int) ≤ 1000 := by decide
  unfold nxP
  split
  · rename_i hv
    have hV := h hv
    obtain ⟨e0, e1⟩ := hV.e_nat
    cases hp : s.p with
    | nil =>
      dsimp only
      split
      · have hf : s.fi = if s.fk = 0 then -1 else s.e := hV.fi
        have h1 : -1 ≤ s.fi ∧ s.fi ≤ 1000 := by rw [hf]; split <;> omega
        exact ⟨h1, show ((ByteArray.mk #[]).size : Int) ≤ 1000 by decide⟩
      · exact hz
    | cons r t =>
      dsimp only
      obtain ⟨t1, t2, t3⟩ := whole_tops hV.hd.rp hV.hd.rf hV.hd.rk (fun n hn => ((hV.wh.1 n).1 hn).2)
      rw [hp] at t1
      have h1 := t1 r (by simp)
      have h2 := rgs_mem hV.hd.rp (r := r) (by rw [hp]; simp)
      split
      · refine ⟨by dsimp only; omega, ?_⟩
        refine pkS_size _ _ _ 1000 (by omega) ?_
        unfold nxN
        omega
      · exact hz
  · exact hz
set_option maxHeartbeats 16000000 in
set_option maxRecDepth 100000 in
theorem l9Step_any (m : Int) (p : Nat) (code : Value) (s : Sn) (a : Ads) (c1 c2 c3 c4 lo hi B : Nat) (w : World) (hc : CurAt w p code) (hs : SnDr m s) (ho : OwnSnB B lo hi w a c2 ⟨s.xs, s.p, s.f, s.k⟩) (hB : B < w.heap.size) (hlB : lo ≤ B) (hlo : p < lo) (hhi : hi ≤ w.heap.size) (hm : 0 ≤ m ∧ m ≤ 90) :
    Calls Try.prog 136 #[.pointer (some ⟨p, 0, none⟩), .agg #[.int .i64 s.st, .int .i64 s.z, .int .i64 s.b, .int .i64 s.e, .slice a.r s.xs.length c1, .slice a.p s.p.length c2, .slice a.f s.f.length c3, .slice a.k s.k.length c4, .int .i64 s.fi, .int .i64 s.fk, .int .i64 s.se, .int .i64 s.co]] w (DrewSnB (m + 5) B lo p code w) := by
  have hlen := hs.len
  have hse0 := hs.e0
  have hsem := hs.em
  obtain ⟨hlp, hlf, hlk⟩ := hs.lens (by omega)
  have hany := hide (hs.any0 (by omega))
  have hV := hide (fun (h : actV (sndS s) s = true) => hs.vld h)
  replace hs := hide hs
  replace ho := hide ho
  have hpl := hc.lt
  go_enter Try.func136, Try.ntmps136
  have hgw0 : Chg (fun b => b = p ∨ w.heap.size ≤ b) w w := Chg.refl _ _
  go_wp2_with fail
  refine (l1Below_pos p code 10 _ (by omega) (hc.stays (S := fun b => False) Chg.go (fun b h => xom))).mono ?_
  rintro en w1 ⟨y, rfl, ⟨y0, y1⟩, hcuw1, hw1⟩
  have gw1 : Chg (fun b => b = p) w w1 := Chg.trans Chg.go (Chg.mono (T := fun b => b = p) hw1 xsub)
  have zw1 := hw1.size
  (try simp at zw1)
  have yw1 : w.heap.size ≤ w1.heap.size := gw1.size
  have hs_w1 := hide (BoxV.chg (BoxV.new w [.int .i64 s.st, .int .i64 s.z, .int .i64 s.b, .int .i64 s.e, .slice a.r s.xs.length c1, .slice a.p s.p.length c2, .slice a.f s.f.length c3, .slice a.k s.k.length c4, .int .i64 s.fi, .int .i64 s.fk, .int .i64 s.se, .int .i64 s.co] 32) (S := fun b => b = p) (Chg.trans Chg.go (Chg.mono (T := fun b => b = p) hw1 xsub)) xom)
  have hr_w1 := hide (BoxV.chg (show BoxV (w.heap.size + 1) _ [.int .i64 0, .int .i64 0, .int .i64 0, .int .i64 0, .slice none 0 0, .slice none 0 0, .slice none 0 0, .slice none 0 0, .int .i64 0, .int .i64 0, .int .i64 0, .int .i64 0] from by have h := (BoxV.new (w.alloc (.cells #[.int .i64 s.st, .int .i64 s.z, .int .i64 s.b, .int .i64 s.e, .slice a.r s.xs.length c1, .slice a.p s.p.length c2, .slice a.f s.f.length c3, .slice a.k s.k.length c4, .int .i64 s.fi, .int .i64 s.fk, .int .i64 s.se, .int .i64 s.co] 32)) [.int .i64 0, .int .i64 0, .int .i64 0, .int .i64 0, .slice none 0 0, .slice none 0 0, .slice none 0 0, .slice none 0 0, .int .i64 0, .int .i64 0, .int .i64 0, .int .i64 0] 32); simpa only [World.size_alloc, World.size_drew] using h) (S := fun b => b = p) (Chg.trans Chg.go (Chg.mono (T := fun b => b = p) hw1 xsub)) xom)
  have hx_w1 := hide (BoxV.chg (show BoxV (w.heap.size + 1 + 1) _ [.int .i64 s.st, .int .i64 s.z, .int .i64 s.b, .int .i64 s.e, .slice a.r s.xs.length c1, .slice a.p s.p.length c2, .slice a.f s.f.length c3, .slice a.k s.k.length c4, .int .i64 s.fi, .int .i64 s.fk, .int .i64 s.se, .int .i64 s.co] from by have h := (BoxV.new ((w.alloc (.cells #[.int .i64 s.st, .int .i64 s.z, .int .i64 s.b, .int .i64 s.e, .slice a.r s.xs.length c1, .slice a.p s.p.length c2, .slice a.f s.f.length c3, .slice a.k s.k.length c4, .int .i64 s.fi, .int .i64 s.fk, .int .i64 s.se, .int .i64 s.co] 32)).alloc (.cells #[.int .i64 0, .int .i64 0, .int .i64 0, .int .i64 0, .slice none 0 0, .slice none 0 0, .slice none 0 0, .slice none 0 0, .int .i64 0, .int .i64 0, .int .i64 0, .int .i64 0] 32)) [.int .i64 s.st, .int .i64 s.z, .int .i64 s.b, .int .i64 s.e, .slice a.r s.xs.length c1, .slice a.p s.p.length c2, .slice a.f s.f.length c3, .slice a.k s.k.length c4, .int .i64 s.fi, .int .i64 s.fk, .int .i64 s.se, .int .i64 s.co] 32); simpa only [World.size_alloc, World.size_drew] using h) (S := fun b => b = p) (Chg.trans Chg.go (Chg.mono (T := fun b => b = p) hw1 xsub)) xom)
  have ox_w1 := hide (OwnSnB.chg ho.out gw1 xap)
  have hgww1 : Chg (fun b => b = p ∨ w.heap.size ≤ b) w w1 := Chg.trans hgw0 (Chg.mono (T := fun b => b = p ∨ w.heap.size ≤ b) gw1 xsub)
  clear ho hgw0
  clear gw1 hw1
  obtain ⟨bs0, bs1, bs2, bs3, bs4, bs5, bs6, bs7, bs8, bs9, bs10, bs11, bsF, kbs⟩ := BoxV.a12 hs_w1.out
  obtain ⟨br0, br1, br2, br3, br4, br5, br6, br7, br8, br9, br10, br11, brF, kbr⟩ := BoxV.a12 hr_w1.out
  obtain ⟨bx0, bx1, bx2, bx3, bx4, bx5, bx6, bx7, bx8, bx9, bx10, bx11, bxF, kbx⟩ := BoxV.a12 hx_w1.out
  have ⟨nesr, ners⟩ := ne2 (show w.heap.size ≠ w.heap.size + 1 by omega)
  have ⟨nesx, nexs⟩ := ne2 (show w.heap.size ≠ w.heap.size + 1 + 1 by omega)
  have ⟨nerx, nexr⟩ := ne2 (show w.heap.size + 1 ≠ w.heap.size + 1 + 1 by omega)
  obtain ⟨b0_, hb0⟩ : ∃ b, (y == 0) = b := ⟨_, rfl⟩
  obtain ⟨b1_, hb1⟩ : ∃ b, (y == 1) = b := ⟨_, rfl⟩
  obtain ⟨b2_, hb2⟩ : ∃ b, (y == 2) = b := ⟨_, rfl⟩
  obtain ⟨b3_, hb3⟩ : ∃ b, (y == 3) = b := ⟨_, rfl⟩
  obtain ⟨b4_, hb4⟩ : ∃ b, (y == 4) = b := ⟨_, rfl⟩
  obtain ⟨b5_, hb5⟩ : ∃ b, (y == 5) = b := ⟨_, rfl⟩
  obtain ⟨b6_, hb6⟩ : ∃ b, (y == 6) = b := ⟨_, rfl⟩
  obtain ⟨b7_, hb7⟩ : ∃ b, (y == 7) = b := ⟨_, rfl⟩
  obtain ⟨b8_, hb8⟩ : ∃ b, (y == 8) = b := ⟨_, rfl⟩
  obtain ⟨b9_, hb9⟩ : ∃ b, (y == 9) = b := ⟨_, rfl⟩
  go_upto_block 0 with fail
  go_cut [] (fun wx => ∃ (t : Sn) (g : Ads) (k1 k2 k3 k4 l h : Nat), SnDr (m + 5) t ∧ BoxV (w.heap.size + 1) wx [.int .i64 0, .int .i64 0, .int .i64 0, .int .i64 0, .slice none 0 0, .slice none 0 0, .slice none 0 0, .slice none 0 0, .int .i64 0, .int .i64 0, .int .i64 0, .int .i64 0] ∧ BoxV (w.heap.size + 1 + 1) wx [.int .i64 t.st, .int .i64 t.z, .int .i64 t.b, .int .i64 t.e, .slice g.r t.xs.length k1, .slice g.p t.p.length k2, .slice g.f t.f.length k3, .slice g.k t.k.length k4, .int .i64 t.fi, .int .i64 t.fk, .int .i64 t.se, .int .i64 t.co] ∧ (lo ≤ l ∧ h ≤ wx.heap.size ∧ (h ≤ w.heap.size ∨ w.heap.size + 3 ≤ l)) ∧ OwnSnB B l h wx g k2 ⟨t.xs, t.p, t.f, t.k⟩ ∧ CurAt wx p code ∧ Chg (fun b => b = p ∨ w.heap.size ≤ b) w wx ∧ w1.heap.size ≤ wx.heap.size)
  case first =>
    rcases Bool.eq_false_or_eq_true (b0_ || (b1_ || b2_)) with hor | hor
    · skip
      go_upto_if 11 with fail
      go_cut [11] (fun tq wy => tq = .bool true ∧ wy = w1)
      case first =>
        cases b0_
        · cases b1_
          · cases b2_
            · simp at hor
            · go_wp2_with fail
              go_meet
              exact ⟨rfl, rfl⟩
          · go_wp2_with fail
            go_meet
            exact ⟨rfl, rfl⟩
        · go_wp2_with fail
          go_meet
          exact ⟨rfl, rfl⟩
      case rest =>
        obtain ⟨rfl, hwy⟩ := hcut
        subst hwy
        obtain ⟨w1, hwe⟩ : ∃ u, u = wc := ⟨_, rfl⟩
        subst hwe
        go_wp2_with fail
        refine wp_region_flowC (fun b => b = p ∨ b = w.heap.size + 1 + 1) 8 [(0, 1), (1, 1), (2, 0), (3, 0), (4, 1), (5, 1), (6, 1), (7, 0)] (by kernel_rfl) (by kernel_rfl) ?_
        (refine wpC_pure (v := ?_) rfl rfl (by rfl) ?_ ?_; rotate_left; (focus (intro ws hws; obtain ⟨q0, p0⟩ := hws.row (k := w.heap.size) xpf xom; go_simp; (try with_reducible rfl); done)))
        try simp only [nrm, nrg]
        (refine wpC_pure (v := ?_) rfl rfl (by rfl) ?_ ?_; rotate_left; (focus (intro ws hws; go_simp; (try with_reducible rfl); done)))
        try simp only [nrm, nrg]
        (refine wpC_call 64 ?_ rfl rfl (by rfl) ?_ ?_; rotate_left; (focus (go_simp; (try with_reducible rfl); done)))
        refine (l4Data_any p code 5 _ (hcuw1.stays (S := fun b => False) Chg.go (fun b h => xom)) (by omega) (by omega)).mono ?_
        rintro en b2 ⟨d, rfl, hd, hcub2, hb2⟩
        refine ⟨_, rfl, (Chg.mono hb2 (fun b _ h => Or.inl h)), ?_⟩
        try simp only [nrm, nrg]
        have gb2 : Chg (fun b => b = p) w1 b2 := Chg.trans Chg.go (Chg.mono (T := fun b => b = p) hb2 xsub)
        have zb2 := hb2.size
        (try simp at zb2)
        have yb2 : w1.heap.size ≤ b2.heap.size := gb2.size
        have hs_b2 := hide (hs_w1.out.chg gb2 xom)
        have hr_b2 := hide (hr_w1.out.chg gb2 xom)
        have hx_b2 := hide (hx_w1.out.chg gb2 xom)
        have ox_b2 := hide (OwnSnB.chg ox_w1.out gb2 xap)
        have hgwb2 : Chg (fun b => b = p ∨ w.heap.size ≤ b) w b2 := Chg.trans hgww1 (Chg.mono (T := fun b => b = p ∨ w.heap.size ≤ b) gb2 xsub)
        clear hs_w1 hr_w1 hx_w1 ox_w1 hgww1 hcuw1 bs0 bs1 bs2 bs3 bs4 bs5 bs6 bs7 bs8 bs9 bs10 bs11 bsF kbs br0 br1 br2 br3 br4 br5 br6 br7 br8 br9 br10 br11 brF kbr bx0 bx1 bx2 bx3 bx4 bx5 bx6 bx7 bx8 bx9 bx10 bx11 bxF kbx nesr ners nesx nexs nerx nexr
        clear gb2 hb2
        obtain ⟨bs0, bs1, bs2, bs3, bs4, bs5, bs6, bs7, bs8, bs9, bs10, bs11, bsF, kbs⟩ := BoxV.a12 hs_b2.out
        obtain ⟨br0, br1, br2, br3, br4, br5, br6, br7, br8, br9, br10, br11, brF, kbr⟩ := BoxV.a12 hr_b2.out
        obtain ⟨bx0, bx1, bx2, bx3, bx4, bx5, bx6, bx7, bx8, bx9, bx10, bx11, bxF, kbx⟩ := BoxV.a12 hx_b2.out
        have ⟨nesr, ners⟩ := ne2 (show w.heap.size ≠ w.heap.size + 1 by omega)
        have ⟨nesx, nexs⟩ := ne2 (show w.heap.size ≠ w.heap.size + 1 + 1 by omega)
        have ⟨nerx, nexr⟩ := ne2 (show w.heap.size + 1 ≠ w.heap.size + 1 + 1 by omega)
        (refine wpC_call 17 ?_ rfl rfl (by rfl) ?_ ?_; rotate_left; (focus (go_simp; (try with_reducible rfl); done)))
        refine (WriteSender_spec s a c1 c2 c3 c4 d _ (OwnSnV.read (OwnSnB.snv (OwnSnB.chg (S := fun b => b = p) ox_b2.out Chg.go xap))) (by omega) (by omega) (by omega) (by omega)).mono ?_
        rintro en b3 ⟨g1, g2, g3, g4, k1, k2, k3, k4, rfl, owng, hb3⟩
        refine ⟨_, rfl, (Ext.chg hb3 _), ?_⟩
        try simp only [nrm, nrg]
        have hdr := hide (hs.out.wr hd (sndS s))
        obtain ⟨t, ht⟩ : ∃ t, Hid (wrX (sndS s) s d = t) := ⟨_, hide rfl⟩
        rw [ht.out] at hdr owng ⊢
        have gb3 : Chg (fun b => False) b2 b3 := Chg.trans Chg.go (Ext.chg hb3 _)
        have zb3 := hb3.size
        (try simp at zb3)
        have yb3 : b2.heap.size ≤ b3.heap.size := gb3.size
        have hs_b3 := hide (hs_b2.out.chg gb3 xom)
        have hr_b3 := hide (hr_b2.out.chg gb3 xom)
        have hx_b3 := hide (hx_b2.out.chg gb3 xom)
        have ox_b3 := hide (OwnSnB.chg ox_b2.out gb3 xap)
        have hgwb3 : Chg (fun b => b = p ∨ w.heap.size ≤ b) w b3 := Chg.trans hgwb2 (Chg.mono (T := fun b => b = p ∨ w.heap.size ≤ b) gb3 xsub)
        have hcub3 := hcub2.stays gb3 (fun b h => xom)
        clear hs_b2 hr_b2 hx_b2 ox_b2 hgwb2 hcub2 bs0 bs1 bs2 bs3 bs4 bs5 bs6 bs7 bs8 bs9 bs10 bs11 bsF kbs br0 br1 br2 br3 br4 br5 br6 br7 br8 br9 br10 br11 brF kbr bx0 bx1 bx2 bx3 bx4 bx5 bx6 bx7 bx8 bx9 bx10 bx11 bxF kbx nesr ners nesx nexs nerx nexr
        clear gb3 hb3
        obtain ⟨bs0, bs1, bs2, bs3, bs4, bs5, bs6, bs7, bs8, bs9, bs10, bs11, bsF, kbs⟩ := BoxV.a12 hs_b3.out
        obtain ⟨br0, br1, br2, br3, br4, br5, br6, br7, br8, br9, br10, br11, brF, kbr⟩ := BoxV.a12 hr_b3.out
        obtain ⟨bx0, bx1, bx2, bx3, bx4, bx5, bx6, bx7, bx8, bx9, bx10, bx11, bxF, kbx⟩ := BoxV.a12 hx_b3.out
        have ⟨nesr, ners⟩ := ne2 (show w.heap.size ≠ w.heap.size + 1 by omega)
        have ⟨nesx, nexs⟩ := ne2 (show w.heap.size ≠ w.heap.size + 1 + 1 by omega)
        have ⟨nerx, nexr⟩ := ne2 (show w.heap.size + 1 ≠ w.heap.size + 1 + 1 by omega)
        (try simp only [World.size_alloc, World.size_drew, World.size_setCell] at owng)
        replace owng := hide owng
        iterate 3 ((refine wpC_pure (v := ?_) rfl rfl (by rfl) ?_ ?_; rotate_left; (focus (intro ws hws; go_simp; (try with_reducible rfl); done))); try simp only [nrm, nrg])
        (refine wpC_store ?_ rfl rfl (by rfl) ?_ ?_ ?_; rotate_left; (focus (go_simp; (try with_reducible rfl); done)))
        · exact Chg.go
        try simp only [nrm, nrg]
        refine wpF_done rfl ?_
        simp only [List.drop_succ_cons, List.drop_zero, List.drop_nil]
        have hset := BoxV.set hx_b3.out [.int .i64 t.st, .int .i64 t.z, .int .i64 t.b, .int .i64 t.e, .slice g1 t.xs.length k1, .slice g2 t.p.length k2, .slice g3 t.f.length k3, .slice g4 t.k.length k4, .int .i64 t.fi, .int .i64 t.fk, .int .i64 t.se, .int .i64 t.co] rfl
        simp only [setFrom, Nat.zero_add, Nat.reduceAdd] at hset
        have hzs := hide (hs_b3.out.chg hset.2 xom)
        have hzr := hide (hr_b3.out.chg hset.2 xom)
        have hzx := hide hset.1
        have ozx := hide (OwnSnB.chg ox_b3.out hset.2 xap)
        have ozg := hide (OwnSnV.chg owng.out hset.2 xap)
        have uz := hcub3.stays hset.2 (fun b h => xom)
        have gz := hgwb3.trans (hset.2.mono (T := fun b => b = p ∨ w.heap.size ≤ b) xsub)
        have sz := hset.2.size
        clear hset
        go_wp2_with fail
        go_meet
        exact ⟨t, ⟨g1, g2, g3, g4⟩, k1, k2, k3, k4, _, _, hdr.out, hzr.out, hzx.out, ⟨by omega, by omega, Or.inr (by omega)⟩, OwnSnB.above ozg.out (by omega), uz, gz, by omega⟩
    · skip
      obtain ⟨rfl, rfl, rfl⟩ : b0_ = false ∧ b1_ = false ∧ b2_ = false := by simpa using hor
      clear hor
      rcases Bool.eq_false_or_eq_true (b3_ || (b4_ || b5_)) with hor | hor
      · skip
        go_upto_if 22 with fail
        go_cut [22] (fun tq wy => tq = .bool true ∧ wy = w1)
        case first =>
          cases b3_
          · cases b4_
            · cases b5_
              · simp at hor
              · go_wp2_with fail
                go_meet
                exact ⟨rfl, rfl⟩
            · go_wp2_with fail
              go_meet
              exact ⟨rfl, rfl⟩
          · go_wp2_with fail
            go_meet
            exact ⟨rfl, rfl⟩
        case rest =>
          obtain ⟨rfl, hwy⟩ := hcut
          subst hwy
          obtain ⟨w1, hwe⟩ : ∃ u, u = wc := ⟨_, rfl⟩
          subst hwe
          go_upto_region 10 with fail
          go_cut [6, 7] (fun tq tr wx => ∃ (Bq : Nat) (o : Int) (d : ByteArray) (fin is : Bool), tq = .pointer (some ⟨Bq, 0, none⟩) ∧ tr = .bool is ∧ w1.heap.size ≤ Bq ∧ BoxV Bq wx [.int .i64 o, .string d, .bool fin] ∧ (-1 ≤ o ∧ o ≤ 1000) ∧ (d.size : Int) ≤ 1000 ∧ BoxV (w.heap.size) wx [.int .i64 s.st, .int .i64 s.z, .int .i64 s.b, .int .i64 s.e, .slice a.r s.xs.length c1, .slice a.p s.p.length c2, .slice a.f s.f.length c3, .slice a.k s.k.length c4, .int .i64 s.fi, .int .i64 s.fk, .int .i64 s.se, .int .i64 s.co] ∧ BoxV (w.heap.size + 1) wx [.int .i64 0, .int .i64 0, .int .i64 0, .int .i64 0, .slice none 0 0, .slice none 0 0, .slice none 0 0, .slice none 0 0, .int .i64 0, .int .i64 0, .int .i64 0, .int .i64 0] ∧ BoxV (w.heap.size + 1 + 1) wx [.int .i64 s.st, .int .i64 s.z, .int .i64 s.b, .int .i64 s.e, .slice a.r s.xs.length c1, .slice a.p s.p.length c2, .slice a.f s.f.length c3, .slice a.k s.k.length c4, .int .i64 s.fi, .int .i64 s.fk, .int .i64 s.se, .int .i64 s.co] ∧ OwnSnB B lo hi wx a c2 ⟨s.xs, s.p, s.f, s.k⟩ ∧ CurAt wx p code ∧ Chg (fun b => b = p ∨ w.heap.size ≤ b) w wx ∧ w1.heap.size ≤ wx.heap.size)
          case first =>
            go_wp2_with fail
            refine wp_region_flowC (fun b => b = p ∨ w1.heap.size ≤ b) 10 [(0, 1), (1, 1), (2, 10), (3, 1), (4, 10), (5, 1), (6, 1), (7, 1), (8, 0), (9, 0)] (by kernel_rfl) (by kernel_rfl) ?_
            (refine wpC_pure (v := ?_) rfl rfl (by rfl) ?_ ?_; rotate_left; (focus (intro ws hws; obtain ⟨q0, p0⟩ := hws.row (k := w.heap.size) xpf xom; go_simp; (try with_reducible rfl); done)))
            try simp only [nrm, nrg]
            (refine wpC_pure (v := ?_) rfl rfl (by rfl) ?_ ?_; rotate_left; (focus (intro ws hws; go_simp; (try with_reducible rfl); done)))
            try simp only [nrm, nrg]
            (refine wpF_forkCA (o2 := [(0, 1), (1, 1), (8, 4), (2, 0), (3, 1), (4, 0), (5, 1), (6, 1), (7, 1), (9, 0)]) 87 ?_ (.pointer (some ⟨w1.heap.size, 0, none⟩)) (w1.drew.alloc (.cells #[.int .i64 0, .string ⟨#[]⟩, .bool false] 55)) rfl rfl rfl (by kernel_rfl) rfl rfl (Chg.refl _ _) (by rfl) (by rfl) ?_ (by go_simp) (Chg.alloc (Chg.refl _ _) _) ?_ ?_; rotate_left; (focus (go_simp; (try with_reducible rfl); done)))
            · skip
              refine (l1Below_pos p code 4 _ (by omega) (hcuw1.stays (S := fun b => False) Chg.go (fun b h => xom))).mono ?_
              rintro en e2 ⟨u, rfl, ⟨u0, u1⟩, hcue2, he2⟩
              refine ⟨_, rfl, (Chg.mono he2 (fun b _ h => Or.inl h)), ?_⟩
              try simp only [nrm, nrg]
              have huw : IntKind.i64.wrap (1 + u) = 1 + u := IntWalk.i64_in _ (by omega)
              have ge2 : Chg (fun b => b = p) w1 e2 := Chg.trans Chg.go (Chg.mono (T := fun b => b = p) he2 xsub)
              have ze2 := he2.size
              (try simp at ze2)
              have ye2 : w1.heap.size ≤ e2.heap.size := ge2.size
              have hs_e2 := hide (hs_w1.out.chg ge2 xom)
              have hr_e2 := hide (hr_w1.out.chg ge2 xom)
              have hx_e2 := hide (hx_w1.out.chg ge2 xom)
              have ox_e2 := hide (OwnSnB.chg ox_w1.out ge2 xap)
              have hgwe2 : Chg (fun b => b = p ∨ w.heap.size ≤ b) w e2 := Chg.trans hgww1 (Chg.mono (T := fun b => b = p ∨ w.heap.size ≤ b) ge2 xsub)
              clear hs_w1 hr_w1 hx_w1 ox_w1 hgww1 hcuw1 bs0 bs1 bs2 bs3 bs4 bs5 bs6 bs7 bs8 bs9 bs10 bs11 bsF kbs br0 br1 br2 br3 br4 br5 br6 br7 br8 br9 br10 br11 brF kbr bx0 bx1 bx2 bx3 bx4 bx5 bx6 bx7 bx8 bx9 bx10 bx11 bxF kbx nesr ners nesx nexs nerx nexr
              clear ge2 he2
              obtain ⟨bs0, bs1, bs2, bs3, bs4, bs5, bs6, bs7, bs8, bs9, bs10, bs11, bsF, kbs⟩ := BoxV.a12 hs_e2.out
              obtain ⟨br0, br1, br2, br3, br4, br5, br6, br7, br8, br9, br10, br11, brF, kbr⟩ := BoxV.a12 hr_e2.out
              obtain ⟨bx0, bx1, bx2, bx3, bx4, bx5, bx6, bx7, bx8, bx9, bx10, bx11, bxF, kbx⟩ := BoxV.a12 hx_e2.out
              have ⟨nesr, ners⟩ := ne2 (show w.heap.size ≠ w.heap.size + 1 by omega)
              have ⟨nesx, nexs⟩ := ne2 (show w.heap.size ≠ w.heap.size + 1 + 1 by omega)
              have ⟨nerx, nexr⟩ := ne2 (show w.heap.size + 1 ≠ w.heap.size + 1 + 1 by omega)
              (refine wpC_pure (v := ?_) rfl rfl (by rfl) ?_ ?_; rotate_left; (focus (intro ws hws; go_simp; (try with_reducible rfl); done)))
              try simp only [nrm, nrg]
              (refine wpF_forkCA (o2 := [(0, 1), (1, 1), (2, 10), (3, 1), (8, 6), (4, 0), (5, 1), (6, 1), (7, 1), (9, 0)]) 45 ?_ (.pointer (some ⟨e2.heap.size, 0, none⟩)) (e2.alloc (.cells #[.int .i64 0, .string ⟨#[]⟩, .bool false] 55)) rfl rfl rfl (by kernel_rfl) rfl rfl (Chg.refl _ _) (by rfl) (by rfl) ?_ (by go_simp) (Chg.alloc (Chg.refl _ _) _) ?_ ?_; rotate_left; (focus (go_simp; (try with_reducible rfl); done)))
              · skip
                refine (NextPiece_spec s a c1 c2 c3 c4 (1 + u) 40 _ (OwnSnV.read (OwnSnB.snv (OwnSnB.chg (S := fun b => b = p) ox_e2.out Chg.go xap))) (by omega) (by omega) (by omega) (by omega) (by omega)).mono ?_
                rintro en e3 ⟨rfl, he3⟩
                refine ⟨_, rfl, (Ext.chg he3 _), ?_⟩
                try simp only [nrm, nrg]
                have hnb := nx_bd (m := 1 + u) (l := 40) hV.out (by omega)
                obtain ⟨⟨o, d, fin⟩, hP⟩ : ∃ P, Hid (nxP (sndS s) s (1 + u) 40 = P) := ⟨_, hide rfl⟩
                obtain ⟨is, hI⟩ : ∃ q, Hid (nxB (sndS s) s (1 + u) 40 = q) := ⟨_, hide rfl⟩
                rw [hP.out, hI.out]
                rw [hP.out] at hnb
                dsimp only at hnb ⊢
                have ge3 : Chg (fun b => False) e2 e3 := Chg.trans Chg.go (Ext.chg he3 _)
                have ze3 := he3.size
                (try simp at ze3)
                have ye3 : e2.heap.size ≤ e3.heap.size := ge3.size
                have hs_e3 := hide (hs_e2.out.chg ge3 xom)
                have hr_e3 := hide (hr_e2.out.chg ge3 xom)
                have hx_e3 := hide (hx_e2.out.chg ge3 xom)
                have ox_e3 := hide (OwnSnB.chg ox_e2.out ge3 xap)
                have hgwe3 : Chg (fun b => b = p ∨ w.heap.size ≤ b) w e3 := Chg.trans hgwe2 (Chg.mono (T := fun b => b = p ∨ w.heap.size ≤ b) ge3 xsub)
                have hcue3 := hcue2.stays ge3 (fun b h => xom)
                clear hs_e2 hr_e2 hx_e2 ox_e2 hgwe2 hcue2 bs0 bs1 bs2 bs3 bs4 bs5 bs6 bs7 bs8 bs9 bs10 bs11 bsF kbs br0 br1 br2 br3 br4 br5 br6 br7 br8 br9 br10 br11 brF kbr bx0 bx1 bx2 bx3 bx4 bx5 bx6 bx7 bx8 bx9 bx10 bx11 bxF kbx nesr ners nesx nexs nerx nexr
                clear ge3 he3
                obtain ⟨bs0, bs1, bs2, bs3, bs4, bs5, bs6, bs7, bs8, bs9, bs10, bs11, bsF, kbs⟩ := BoxV.a12 hs_e3.out
                obtain ⟨br0, br1, br2, br3, br4, br5, br6, br7, br8, br9, br10, br11, brF, kbr⟩ := BoxV.a12 hr_e3.out
                obtain ⟨bx0, bx1, bx2, bx3, bx4, bx5, bx6, bx7, bx8, bx9, bx10, bx11, bxF, kbx⟩ := BoxV.a12 hx_e3.out
                have ⟨nesr, ners⟩ := ne2 (show w.heap.size ≠ w.heap.size + 1 by omega)
                have ⟨nesx, nexs⟩ := ne2 (show w.heap.size ≠ w.heap.size + 1 + 1 by omega)
                have ⟨nerx, nexr⟩ := ne2 (show w.heap.size + 1 ≠ w.heap.size + 1 + 1 by omega)
                iterate 3 ((refine wpC_pure (v := ?_) rfl rfl (by rfl) ?_ ?_; rotate_left; (focus (intro ws hws; go_simp; (try with_reducible rfl); done))); try simp only [nrm, nrg])
                refine wpC_made (.pointer (some ⟨e3.heap.size, 0, none⟩)) (e3.alloc (.cells #[.int .i64 0, .string ⟨#[]⟩, .bool false] 55)) rfl rfl (by rfl) (by go_simp) (Chg.alloc (Chg.refl _ _) _) ?_
                try simp only [nrm, nrg]
                obtain ⟨e4, h0e4⟩ : ∃ u, u = (e3.alloc (.cells #[.int .i64 0, .string ⟨#[]⟩, .bool false] 55)) := ⟨_, rfl⟩
                rw [← h0e4]
                have he4 : Ext (e3.alloc (.cells #[.int .i64 0, .string ⟨#[]⟩, .bool false] 55)) e4 := h0e4 ▸ Ext.go
                have ge4 : Chg (fun b => False) e3 e4 := Chg.trans Chg.go (Ext.chg he4 _)
                have ze4 := he4.size
                (try simp at ze4)
                have ye4 : e3.heap.size ≤ e4.heap.size := ge4.size
                have hs_e4 := hide (hs_e3.out.chg ge4 xom)
                have hr_e4 := hide (hr_e3.out.chg ge4 xom)
                have hx_e4 := hide (hx_e3.out.chg ge4 xom)
                have hq_e4 := hide (BoxV.chg (BoxV.new e3 [.int .i64 0, .string ⟨#[]⟩, .bool false] 55) (S := fun b => False) (Chg.trans Chg.go (Ext.chg he4 _)) xom)
                have ox_e4 := hide (OwnSnB.chg ox_e3.out ge4 xap)
                have hgwe4 : Chg (fun b => b = p ∨ w.heap.size ≤ b) w e4 := Chg.trans hgwe3 (Chg.mono (T := fun b => b = p ∨ w.heap.size ≤ b) ge4 xsub)
                have hcue4 := hcue3.stays ge4 (fun b h => xom)
                clear hs_e3 hr_e3 hx_e3 ox_e3 hgwe3 hcue3 bs0 bs1 bs2 bs3 bs4 bs5 bs6 bs7 bs8 bs9 bs10 bs11 bsF kbs br0 br1 br2 br3 br4 br5 br6 br7 br8 br9 br10 br11 brF kbr bx0 bx1 bx2 bx3 bx4 bx5 bx6 bx7 bx8 bx9 bx10 bx11 bxF kbx nesr ners nesx nexs nerx nexr
                clear ge4 he4
                obtain ⟨bs0, bs1, bs2, bs3, bs4, bs5, bs6, bs7, bs8, bs9, bs10, bs11, bsF, kbs⟩ := BoxV.a12 hs_e4.out
                obtain ⟨br0, br1, br2, br3, br4, br5, br6, br7, br8, br9, br10, br11, brF, kbr⟩ := BoxV.a12 hr_e4.out
                obtain ⟨bx0, bx1, bx2, bx3, bx4, bx5, bx6, bx7, bx8, bx9, bx10, bx11, bxF, kbx⟩ := BoxV.a12 hx_e4.out
                obtain ⟨bq0, bq1, bq2, bqF, kbq⟩ := BoxV.a3 hq_e4.out
                have ⟨nesr, ners⟩ := ne2 (show w.heap.size ≠ w.heap.size + 1 by omega)
                have ⟨nesx, nexs⟩ := ne2 (show w.heap.size ≠ w.heap.size + 1 + 1 by omega)
                have ⟨nesq, neqs⟩ := ne2 (show w.heap.size ≠ e3.heap.size by omega)
                have ⟨nerx, nexr⟩ := ne2 (show w.heap.size + 1 ≠ w.heap.size + 1 + 1 by omega)
                have ⟨nerq, neqr⟩ := ne2 (show w.heap.size + 1 ≠ e3.heap.size by omega)
                have ⟨nexq, neqx⟩ := ne2 (show w.heap.size + 1 + 1 ≠ e3.heap.size by omega)
                clear h0e4
                (refine wpC_store ?_ rfl rfl (by rfl) ?_ ?_ ?_; rotate_left; (focus (go_simp; (try with_reducible rfl); done)))
                · exact Chg.go
                try simp only [nrm, nrg]
                refine wpF_done rfl ?_
                simp only [List.drop_succ_cons, List.drop_zero, List.drop_nil]
                have hset := BoxV.set hq_e4.out [.int .i64 o, .string d, .bool fin] rfl
                simp only [setFrom, Nat.zero_add, Nat.reduceAdd] at hset
                have hzs := hide (hs_e4.out.chg hset.2 xom)
                have hzr := hide (hr_e4.out.chg hset.2 xom)
                have hzx := hide (hx_e4.out.chg hset.2 xom)
                have hzq := hide hset.1
                have ozx := hide (OwnSnB.chg ox_e4.out hset.2 xap)
                have uz := hcue4.stays hset.2 (fun b h => xom)
                have gz := hgwe4.trans (hset.2.mono (T := fun b => b = p ∨ w.heap.size ≤ b) xsub)
                have sz := hset.2.size
                clear hset
                go_wp2_with fail
                go_meet
                exact ⟨_, o, d, fin, is, rfl, rfl, by omega, hzq.out, hnb.1, hnb.2, hzs.out, hzr.out, hzx.out, ozx.out, uz, gz, by omega⟩
              · skip
                try simp only [nrm, nrg]
                (refine wpC_call 45 ?_ rfl rfl (by rfl) ?_ ?_; rotate_left; (focus (go_simp; (try with_reducible rfl); done)))
                refine (NextPiece_spec s a c1 c2 c3 c4 (1 + u) 40 _ (OwnSnV.read (OwnSnB.snv (OwnSnB.chg (S := fun b => b = p) ox_e2.out Chg.go xap))) (by omega) (by omega) (by omega) (by omega) (by omega)).mono ?_
                rintro en e3 ⟨rfl, he3⟩
                refine ⟨_, rfl, (Ext.chg he3 _), ?_⟩
                try simp only [nrm, nrg]
                have hnb := nx_bd (m := 1 + u) (l := 40) hV.out (by omega)
                obtain ⟨⟨o, d, fin⟩, hP⟩ : ∃ P, Hid (nxP (sndS s) s (1 + u) 40 = P) := ⟨_, hide rfl⟩
                obtain ⟨is, hI⟩ : ∃ q, Hid (nxB (sndS s) s (1 + u) 40 = q) := ⟨_, hide rfl⟩
                rw [hP.out, hI.out]
                rw [hP.out] at hnb
                dsimp only at hnb ⊢
                have ge3 : Chg (fun b => False) e2 e3 := Chg.trans Chg.go (Ext.chg he3 _)
                have ze3 := he3.size
                (try simp at ze3)
                have ye3 : e2.heap.size ≤ e3.heap.size := ge3.size
                have hs_e3 := hide (hs_e2.out.chg ge3 xom)
                have hr_e3 := hide (hr_e2.out.chg ge3 xom)
                have hx_e3 := hide (hx_e2.out.chg ge3 xom)
                have hq_e3 := hide (BoxV.chg (BoxV.new e2 [.int .i64 0, .string ⟨#[]⟩, .bool false] 55) (S := fun b => False) (Chg.trans Chg.go (Ext.chg he3 _)) xom)
                have ox_e3 := hide (OwnSnB.chg ox_e2.out ge3 xap)
                have hgwe3 : Chg (fun b => b = p ∨ w.heap.size ≤ b) w e3 := Chg.trans hgwe2 (Chg.mono (T := fun b => b = p ∨ w.heap.size ≤ b) ge3 xsub)
                have hcue3 := hcue2.stays ge3 (fun b h => xom)
                clear hs_e2 hr_e2 hx_e2 ox_e2 hgwe2 hcue2 bs0 bs1 bs2 bs3 bs4 bs5 bs6 bs7 bs8 bs9 bs10 bs11 bsF kbs br0 br1 br2 br3 br4 br5 br6 br7 br8 br9 br10 br11 brF kbr bx0 bx1 bx2 bx3 bx4 bx5 bx6 bx7 bx8 bx9 bx10 bx11 bxF kbx nesr ners nesx nexs nerx nexr
                clear ge3 he3
                obtain ⟨bs0, bs1, bs2, bs3, bs4, bs5, bs6, bs7, bs8, bs9, bs10, bs11, bsF, kbs⟩ := BoxV.a12 hs_e3.out
                obtain ⟨br0, br1, br2, br3, br4, br5, br6, br7, br8, br9, br10, br11, brF, kbr⟩ := BoxV.a12 hr_e3.out
                obtain ⟨bx0, bx1, bx2, bx3, bx4, bx5, bx6, bx7, bx8, bx9, bx10, bx11, bxF, kbx⟩ := BoxV.a12 hx_e3.out
                obtain ⟨bq0, bq1, bq2, bqF, kbq⟩ := BoxV.a3 hq_e3.out
                have ⟨nesr, ners⟩ := ne2 (show w.heap.size ≠ w.heap.size + 1 by omega)
                have ⟨nesx, nexs⟩ := ne2 (show w.heap.size ≠ w.heap.size + 1 + 1 by omega)
                have ⟨nesq, neqs⟩ := ne2 (show w.heap.size ≠ e2.heap.size by omega)
                have ⟨nerx, nexr⟩ := ne2 (show w.heap.size + 1 ≠ w.heap.size + 1 + 1 by omega)
                have ⟨nerq, neqr⟩ := ne2 (show w.heap.size + 1 ≠ e2.heap.size by omega)
                have ⟨nexq, neqx⟩ := ne2 (show w.heap.size + 1 + 1 ≠ e2.heap.size by omega)
                iterate 3 ((refine wpC_pure (v := ?_) rfl rfl (by rfl) ?_ ?_; rotate_left; (focus (intro ws hws; go_simp; (try with_reducible rfl); done))); try simp only [nrm, nrg])
                (refine wpC_store ?_ rfl rfl (by rfl) ?_ ?_ ?_; rotate_left; (focus (go_simp; (try with_reducible rfl); done)))
                · exact Chg.go
                try simp only [nrm, nrg]
                refine wpF_done rfl ?_
                simp only [List.drop_succ_cons, List.drop_zero, List.drop_nil]
                have hset := BoxV.set hq_e3.out [.int .i64 o, .string d, .bool fin] rfl
                simp only [setFrom, Nat.zero_add, Nat.reduceAdd] at hset
                have hzs := hide (hs_e3.out.chg hset.2 xom)
                have hzr := hide (hr_e3.out.chg hset.2 xom)
                have hzx := hide (hx_e3.out.chg hset.2 xom)
                have hzq := hide hset.1
                have ozx := hide (OwnSnB.chg ox_e3.out hset.2 xap)
                have uz := hcue3.stays hset.2 (fun b h => xom)
                have gz := hgwe3.trans (hset.2.mono (T := fun b => b = p ∨ w.heap.size ≤ b) xsub)
                have sz := hset.2.size
                clear hset
                go_wp2_with fail
                go_meet
                exact ⟨_, o, d, fin, is, rfl, rfl, by omega, hzq.out, hnb.1, hnb.2, hzs.out, hzr.out, hzx.out, ozx.out, uz, gz, by omega⟩
            · skip
              try simp only [nrm, nrg]
              (refine wpC_call 87 ?_ rfl rfl (by rfl) ?_ ?_; rotate_left; (focus (go_simp; (try with_reducible rfl); done)))
              refine (l1Below_pos p code 4 _ (by omega) (hcuw1.stays (S := fun b => False) Chg.go (fun b h => xom))).mono ?_
              rintro en e2 ⟨u, rfl, ⟨u0, u1⟩, hcue2, he2⟩
              refine ⟨_, rfl, (Chg.mono he2 (fun b _ h => Or.inl h)), ?_⟩
              try simp only [nrm, nrg]
              have huw : IntKind.i64.wrap (1 + u) = 1 + u := IntWalk.i64_in _ (by omega)
              have ge2 : Chg (fun b => b = p) w1 e2 := Chg.trans Chg.go (Chg.mono (T := fun b => b = p) he2 xsub)
              have ze2 := he2.size
              (try simp at ze2)
              have ye2 : w1.heap.size ≤ e2.heap.size := ge2.size
              have hs_e2 := hide (hs_w1.out.chg ge2 xom)
              have hr_e2 := hide (hr_w1.out.chg ge2 xom)
              have hx_e2 := hide (hx_w1.out.chg ge2 xom)
              have hq_e2 := hide (BoxV.chg (show BoxV (w1.heap.size) _ [.int .i64 0, .string ⟨#[]⟩, .bool false] from by have h := (BoxV.new w1.drew [.int .i64 0, .string ⟨#[]⟩, .bool false] 55); simpa only [World.size_alloc, World.size_drew] using h) (S := fun b => b = p) (Chg.trans Chg.go (Chg.mono (T := fun b => b = p) he2 xsub)) xom)
              have ox_e2 := hide (OwnSnB.chg ox_w1.out ge2 xap)
              have hgwe2 : Chg (fun b => b = p ∨ w.heap.size ≤ b) w e2 := Chg.trans hgww1 (Chg.mono (T := fun b => b = p ∨ w.heap.size ≤ b) ge2 xsub)
              clear hs_w1 hr_w1 hx_w1 ox_w1 hgww1 hcuw1 bs0 bs1 bs2 bs3 bs4 bs5 bs6 bs7 bs8 bs9 bs10 bs11 bsF kbs br0 br1 br2 br3 br4 br5 br6 br7 br8 br9 br10 br11 brF kbr bx0 bx1 bx2 bx3 bx4 bx5 bx6 bx7 bx8 bx9 bx10 bx11 bxF kbx nesr ners nesx nexs nerx nexr
              clear ge2 he2
              obtain ⟨bs0, bs1, bs2, bs3, bs4, bs5, bs6, bs7, bs8, bs9, bs10, bs11, bsF, kbs⟩ := BoxV.a12 hs_e2.out
              obtain ⟨br0, br1, br2, br3, br4, br5, br6, br7, br8, br9, br10, br11, brF, kbr⟩ := BoxV.a12 hr_e2.out
              obtain ⟨bx0, bx1, bx2, bx3, bx4, bx5, bx6, bx7, bx8, bx9, bx10, bx11, bxF, kbx⟩ := BoxV.a12 hx_e2.out
              obtain ⟨bq0, bq1, bq2, bqF, kbq⟩ := BoxV.a3 hq_e2.out
              have ⟨nesr, ners⟩ := ne2 (show w.heap.size ≠ w.heap.size + 1 by omega)
              have ⟨nesx, nexs⟩ := ne2 (show w.heap.size ≠ w.heap.size + 1 + 1 by omega)
              have ⟨nesq, neqs⟩ := ne2 (show w.heap.size ≠ w1.heap.size by omega)
              have ⟨nerx, nexr⟩ := ne2 (show w.heap.size + 1 ≠ w.heap.size + 1 + 1 by omega)
              have ⟨nerq, neqr⟩ := ne2 (show w.heap.size + 1 ≠ w1.heap.size by omega)
              have ⟨nexq, neqx⟩ := ne2 (show w.heap.size + 1 + 1 ≠ w1.heap.size by omega)
              (refine wpC_pure (v := ?_) rfl rfl (by rfl) ?_ ?_; rotate_left; (focus (intro ws hws; go_simp; (try with_reducible rfl); done)))
              try simp only [nrm, nrg]
              (refine wpC_call 45 ?_ rfl rfl (by rfl) ?_ ?_; rotate_left; (focus (go_simp; (try with_reducible rfl); done)))
              refine (NextPiece_spec s a c1 c2 c3 c4 (1 + u) 40 _ (OwnSnV.read (OwnSnB.snv (OwnSnB.chg (S := fun b => b = p) ox_e2.out Chg.go xap))) (by omega) (by omega) (by omega) (by omega) (by omega)).mono ?_
              rintro en e3 ⟨rfl, he3⟩
              refine ⟨_, rfl, (Ext.chg he3 _), ?_⟩
              try simp only [nrm, nrg]
              have hnb := nx_bd (m := 1 + u) (l := 40) hV.out (by omega)
              obtain ⟨⟨o, d, fin⟩, hP⟩ : ∃ P, Hid (nxP (sndS s) s (1 + u) 40 = P) := ⟨_, hide rfl⟩
              obtain ⟨is, hI⟩ : ∃ q, Hid (nxB (sndS s) s (1 + u) 40 = q) := ⟨_, hide rfl⟩
              rw [hP.out, hI.out]
              rw [hP.out] at hnb
              dsimp only at hnb ⊢
              have ge3 : Chg (fun b => False) e2 e3 := Chg.trans Chg.go (Ext.chg he3 _)
              have ze3 := he3.size
              (try simp at ze3)
              have ye3 : e2.heap.size ≤ e3.heap.size := ge3.size
              have hs_e3 := hide (hs_e2.out.chg ge3 xom)
              have hr_e3 := hide (hr_e2.out.chg ge3 xom)
              have hx_e3 := hide (hx_e2.out.chg ge3 xom)
              have hq_e3 := hide (hq_e2.out.chg ge3 xom)
              have ox_e3 := hide (OwnSnB.chg ox_e2.out ge3 xap)
              have hgwe3 : Chg (fun b => b = p ∨ w.heap.size ≤ b) w e3 := Chg.trans hgwe2 (Chg.mono (T := fun b => b = p ∨ w.heap.size ≤ b) ge3 xsub)
              have hcue3 := hcue2.stays ge3 (fun b h => xom)
              clear hs_e2 hr_e2 hx_e2 hq_e2 ox_e2 hgwe2 hcue2 bs0 bs1 bs2 bs3 bs4 bs5 bs6 bs7 bs8 bs9 bs10 bs11 bsF kbs br0 br1 br2 br3 br4 br5 br6 br7 br8 br9 br10 br11 brF kbr bx0 bx1 bx2 bx3 bx4 bx5 bx6 bx7 bx8 bx9 bx10 bx11 bxF kbx bq0 bq1 bq2 bqF kbq nesr ners nesx nexs nesq neqs nerx nexr nerq neqr nexq neqx
              clear ge3 he3
              obtain ⟨bs0, bs1, bs2, bs3, bs4, bs5, bs6, bs7, bs8, bs9, bs10, bs11, bsF, kbs⟩ := BoxV.a12 hs_e3.out
              obtain ⟨br0, br1, br2, br3, br4, br5, br6, br7, br8, br9, br10, br11, brF, kbr⟩ := BoxV.a12 hr_e3.out
              obtain ⟨bx0, bx1, bx2, bx3, bx4, bx5, bx6, bx7, bx8, bx9, bx10, bx11, bxF, kbx⟩ := BoxV.a12 hx_e3.out
              obtain ⟨bq0, bq1, bq2, bqF, kbq⟩ := BoxV.a3 hq_e3.out
              have ⟨nesr, ners⟩ := ne2 (show w.heap.size ≠ w.heap.size + 1 by omega)
              have ⟨nesx, nexs⟩ := ne2 (show w.heap.size ≠ w.heap.size + 1 + 1 by omega)
              have ⟨nesq, neqs⟩ := ne2 (show w.heap.size ≠ w1.heap.size by omega)
              have ⟨nerx, nexr⟩ := ne2 (show w.heap.size + 1 ≠ w.heap.size + 1 + 1 by omega)
              have ⟨nerq, neqr⟩ := ne2 (show w.heap.size + 1 ≠ w1.heap.size by omega)
              have ⟨nexq, neqx⟩ := ne2 (show w.heap.size + 1 + 1 ≠ w1.heap.size by omega)
              iterate 3 ((refine wpC_pure (v := ?_) rfl rfl (by rfl) ?_ ?_; rotate_left; (focus (intro ws hws; go_simp; (try with_reducible rfl); done))); try simp only [nrm, nrg])
              (refine wpC_store ?_ rfl rfl (by rfl) ?_ ?_ ?_; rotate_left; (focus (go_simp; (try with_reducible rfl); done)))
              · exact Chg.go
              try simp only [nrm, nrg]
              refine wpF_done rfl ?_
              simp only [List.drop_succ_cons, List.drop_zero, List.drop_nil]
              have hset := BoxV.set hq_e3.out [.int .i64 o, .string d, .bool fin] rfl
              simp only [setFrom, Nat.zero_add, Nat.reduceAdd] at hset
              have hzs := hide (hs_e3.out.chg hset.2 xom)
              have hzr := hide (hr_e3.out.chg hset.2 xom)
              have hzx := hide (hx_e3.out.chg hset.2 xom)
              have hzq := hide hset.1
              have ozx := hide (OwnSnB.chg ox_e3.out hset.2 xap)
              have uz := hcue3.stays hset.2 (fun b h => xom)
              have gz := hgwe3.trans (hset.2.mono (T := fun b => b = p ∨ w.heap.size ≤ b) xsub)
              have sz := hset.2.size
              clear hset
              go_wp2_with fail
              go_meet
              exact ⟨_, o, d, fin, is, rfl, rfl, by omega, hzq.out, hnb.1, hnb.2, hzs.out, hzr.out, hzx.out, ozx.out, uz, gz, by omega⟩
          case rest =>
            obtain ⟨wx, hwe⟩ : ∃ u, u = wc := ⟨_, rfl⟩
            subst hwe
            obtain ⟨Bq, o, d, fin, is, rfl, rfl, hBw, kBq, ho1, hds, kBs, kBr, kBx, kown, hcux, hgwx, hsz⟩ := hcut
            clear bs0 bs1 bs2 bs3 bs4 bs5 bs6 bs7 bs8 bs9 bs10 bs11 bsF kbs br0 br1 br2 br3 br4 br5 br6 br7 br8 br9 br10 br11 brF kbr bx0 bx1 bx2 bx3 bx4 bx5 bx6 bx7 bx8 bx9 bx10 bx11 bxF kbx nesr ners nesx nexs nerx nexr hs_w1 hr_w1 hx_w1 ox_w1 hcuw1 hgww1
            have hBq := hide kBq
            clear kBq
            have hBs := hide kBs
            clear kBs
            have hBr := hide kBr
            clear kBr
            have hBx := hide kBx
            clear kBx
            replace kown := hide kown
            obtain ⟨bs0, bs1, bs2, bs3, bs4, bs5, bs6, bs7, bs8, bs9, bs10, bs11, bsF, kbs⟩ := BoxV.a12 hBs.out
            obtain ⟨br0, br1, br2, br3, br4, br5, br6, br7, br8, br9, br10, br11, brF, kbr⟩ := BoxV.a12 hBr.out
            obtain ⟨bx0, bx1, bx2, bx3, bx4, bx5, bx6, bx7, bx8, bx9, bx10, bx11, bxF, kbx⟩ := BoxV.a12 hBx.out
            obtain ⟨bq0, bq1, bq2, bqF, kbq⟩ := BoxV.a3 hBq.out
            have ⟨nesr, ners⟩ := ne2 (show w.heap.size ≠ w.heap.size + 1 by omega)
            have ⟨nesx, nexs⟩ := ne2 (show w.heap.size ≠ w.heap.size + 1 + 1 by omega)
            have ⟨nesq, neqs⟩ := ne2 (show w.heap.size ≠ Bq by omega)
            have ⟨nerx, nexr⟩ := ne2 (show w.heap.size + 1 ≠ w.heap.size + 1 + 1 by omega)
            have ⟨nerq, neqr⟩ := ne2 (show w.heap.size + 1 ≠ Bq by omega)
            have ⟨nexq, neqx⟩ := ne2 (show w.heap.size + 1 + 1 ≠ Bq by omega)
            cases is
            · skip
              go_wp2_with fail
              go_meet
              exact ⟨s, a, c1, c2, c3, c4, lo, hi, hs.out.mono (by omega), hBr.out, hBx.out, ⟨Nat.le_refl _, by omega, Or.inl hhi⟩, kown.out, hcux, hgwx, by omega⟩
            · skip
              go_wp2_with fail
              refine (SendPiece_spec s a c1 c2 c3 c4 o d fin _ (OwnSnV.read (OwnSnB.snv (OwnSnB.chg (S := fun b => b = p) kown.out Chg.go xap))) (by omega) (by omega) (by omega) (by omega) (by omega)).mono ?_
              rintro en d2 ⟨g1, g2, g3, g4, k1, k2, k3, k4, rfl, owng, hd2⟩
              have hdr := hide (hs.out.se (sndS s) o d fin)
              obtain ⟨t, ht⟩ : ∃ t, Hid (seX (sndS s) s o d fin = t) := ⟨_, hide rfl⟩
              rw [ht.out] at hdr owng ⊢
              have gd2 : Chg (fun b => False) wx d2 := Chg.trans Chg.go (Ext.chg hd2 _)
              have zd2 := hd2.size
              (try simp at zd2)
              have yd2 : wx.heap.size ≤ d2.heap.size := gd2.size
              have hs_d2 := hide (hBs.out.chg gd2 xom)
              have hr_d2 := hide (hBr.out.chg gd2 xom)
              have hx_d2 := hide (hBx.out.chg gd2 xom)
              have hq_d2 := hide (hBq.out.chg gd2 xom)
              have ox_d2 := hide (OwnSnB.chg kown.out gd2 xap)
              have hgwd2 : Chg (fun b => b = p ∨ w.heap.size ≤ b) w d2 := Chg.trans hgwx (Chg.mono (T := fun b => b = p ∨ w.heap.size ≤ b) gd2 xsub)
              have hcud2 := hcux.stays gd2 (fun b h => xom)
              clear hBs hBr hBx hBq kown hgwx hcux bs0 bs1 bs2 bs3 bs4 bs5 bs6 bs7 bs8 bs9 bs10 bs11 bsF kbs br0 br1 br2 br3 br4 br5 br6 br7 br8 br9 br10 br11 brF kbr bx0 bx1 bx2 bx3 bx4 bx5 bx6 bx7 bx8 bx9 bx10 bx11 bxF kbx bq0 bq1 bq2 bqF kbq nesr ners nesx nexs nesq neqs nerx nexr nerq neqr nexq neqx
              clear gd2 hd2
              obtain ⟨bs0, bs1, bs2, bs3, bs4, bs5, bs6, bs7, bs8, bs9, bs10, bs11, bsF, kbs⟩ := BoxV.a12 hs_d2.out
              obtain ⟨br0, br1, br2, br3, br4, br5, br6, br7, br8, br9, br10, br11, brF, kbr⟩ := BoxV.a12 hr_d2.out
              obtain ⟨bx0, bx1, bx2, bx3, bx4, bx5, bx6, bx7, bx8, bx9, bx10, bx11, bxF, kbx⟩ := BoxV.a12 hx_d2.out
              obtain ⟨bq0, bq1, bq2, bqF, kbq⟩ := BoxV.a3 hq_d2.out
              have ⟨nesr, ners⟩ := ne2 (show w.heap.size ≠ w.heap.size + 1 by omega)
              have ⟨nesx, nexs⟩ := ne2 (show w.heap.size ≠ w.heap.size + 1 + 1 by omega)
              have ⟨nesq, neqs⟩ := ne2 (show w.heap.size ≠ Bq by omega)
              have ⟨nerx, nexr⟩ := ne2 (show w.heap.size + 1 ≠ w.heap.size + 1 + 1 by omega)
              have ⟨nerq, neqr⟩ := ne2 (show w.heap.size + 1 ≠ Bq by omega)
              have ⟨nexq, neqx⟩ := ne2 (show w.heap.size + 1 + 1 ≠ Bq by omega)
              (try simp only [World.size_alloc, World.size_drew, World.size_setCell] at owng)
              replace owng := hide owng
              have hset := BoxV.set hx_d2.out [.int .i64 t.st, .int .i64 t.z, .int .i64 t.b, .int .i64 t.e, .slice g1 t.xs.length k1, .slice g2 t.p.length k2, .slice g3 t.f.length k3, .slice g4 t.k.length k4, .int .i64 t.fi, .int .i64 t.fk, .int .i64 t.se, .int .i64 t.co] rfl
              simp only [setFrom, Nat.zero_add, Nat.reduceAdd] at hset
              have hzs := hide (hs_d2.out.chg hset.2 xom)
              have hzr := hide (hr_d2.out.chg hset.2 xom)
              have hzq := hide (hq_d2.out.chg hset.2 xom)
              have hzx := hide hset.1
              have ozx := hide (OwnSnB.chg ox_d2.out hset.2 xap)
              have ozg := hide (OwnSnV.chg owng.out hset.2 xap)
              have uz := hcud2.stays hset.2 (fun b h => xom)
              have gz := hgwd2.trans (hset.2.mono (T := fun b => b = p ∨ w.heap.size ≤ b) xsub)
              have sz := hset.2.size
              clear hset
              go_wp2_with fail
              go_meet
              exact ⟨t, ⟨g1, g2, g3, g4⟩, k1, k2, k3, k4, _, _, hdr.out.mono (by omega), hzr.out, hzx.out, ⟨by omega, by omega, Or.inr (by omega)⟩, OwnSnB.above ozg.out (by omega), uz, gz, by omega⟩
      · skip
        obtain ⟨rfl, rfl, rfl⟩ : b3_ = false ∧ b4_ = false ∧ b5_ = false := by simpa using hor
        clear hor
        cases b6_
        rotate_left
        · skip
          go_wp2_with fail
          refine wp_region_flowC (fun b => b = p) 4 [(0, 1), (1, 1), (2, 1), (3, 0)] (by kernel_rfl) (by kernel_rfl) ?_
          (refine wpC_pure (v := ?_) rfl rfl (by rfl) ?_ ?_; rotate_left; (focus (intro ws hws; obtain ⟨q0, p0⟩ := hws.row (k := w.heap.size) xpf xom; go_simp; (try with_reducible rfl); done)))
          try simp only [nrm, nrg]
          (refine wpC_pure (v := ?_) rfl rfl (by rfl) ?_ ?_; rotate_left; (focus (intro ws hws; go_simp; (try with_reducible rfl); done)))
          try simp only [nrm, nrg]
          (refine wpC_pure (v := ?_) rfl rfl (by rfl) ?_ ?_; rotate_left; (focus (intro ws hws; obtain ⟨q0, p0⟩ := hws.row (k := w.heap.size) xpf xom; go_simp; (try with_reducible rfl); done)))
          try simp only [nrm, nrg]
          (refine wpC_call 133 ?_ rfl rfl (by rfl) ?_ ?_; rotate_left; (focus (go_simp; (try with_reducible rfl); done)))
          refine (l9Some_any p code s a c1 c2 c3 c4 lo hi _ (hcuw1.stays (S := fun b => False) Chg.go (fun b h => xom)) hany.out (OwnSnB.snv (OwnSnB.chg (S := fun b => b = p) ox_w1.out Chg.go xap)) hlo (by first | omega | (simp; omega))).mono ?_
          rintro en b2 ⟨o, d, fin, rfl, ho1, hds, hcub2, hb2⟩
          refine ⟨_, rfl, hb2, ?_⟩
          try simp only [nrm, nrg]
          have gb2 : Chg (fun b => b = p) w1 b2 := Chg.trans Chg.go (Chg.mono (T := fun b => b = p) hb2 xsub)
          have zb2 := hb2.size
          (try simp at zb2)
          have yb2 : w1.heap.size ≤ b2.heap.size := gb2.size
          have hs_b2 := hide (hs_w1.out.chg gb2 xom)
          have hr_b2 := hide (hr_w1.out.chg gb2 xom)
          have hx_b2 := hide (hx_w1.out.chg gb2 xom)
          have ox_b2 := hide (OwnSnB.chg ox_w1.out gb2 xap)
          have hgwb2 : Chg (fun b => b = p ∨ w.heap.size ≤ b) w b2 := Chg.trans hgww1 (Chg.mono (T := fun b => b = p ∨ w.heap.size ≤ b) gb2 xsub)
          clear hs_w1 hr_w1 hx_w1 ox_w1 hgww1 hcuw1 bs0 bs1 bs2 bs3 bs4 bs5 bs6 bs7 bs8 bs9 bs10 bs11 bsF kbs br0 br1 br2 br3 br4 br5 br6 br7 br8 br9 br10 br11 brF kbr bx0 bx1 bx2 bx3 bx4 bx5 bx6 bx7 bx8 bx9 bx10 bx11 bxF kbx nesr ners nesx nexs nerx nexr
          clear gb2 hb2
          obtain ⟨bs0, bs1, bs2, bs3, bs4, bs5, bs6, bs7, bs8, bs9, bs10, bs11, bsF, kbs⟩ := BoxV.a12 hs_b2.out
          obtain ⟨br0, br1, br2, br3, br4, br5, br6, br7, br8, br9, br10, br11, brF, kbr⟩ := BoxV.a12 hr_b2.out
          obtain ⟨bx0, bx1, bx2, bx3, bx4, bx5, bx6, bx7, bx8, bx9, bx10, bx11, bxF, kbx⟩ := BoxV.a12 hx_b2.out
          have ⟨nesr, ners⟩ := ne2 (show w.heap.size ≠ w.heap.size + 1 by omega)
          have ⟨nesx, nexs⟩ := ne2 (show w.heap.size ≠ w.heap.size + 1 + 1 by omega)
          have ⟨nerx, nexr⟩ := ne2 (show w.heap.size + 1 ≠ w.heap.size + 1 + 1 by omega)
          refine wpF_done rfl ?_
          simp only [List.drop_succ_cons, List.drop_zero, List.drop_nil]
          go_wp2_with fail
          refine (AckPiece_spec s a c1 c2 c3 c4 o d fin _ (OwnSnV.read (OwnSnB.snv (OwnSnB.chg (S := fun b => b = p) ox_b2.out Chg.go xap))) (by omega) (by omega) (by omega) (by omega) (by omega) hV.out).mono ?_
          rintro en b3 ⟨g1, g2, g3, g4, k1, k2, k3, k4, rfl, owng, hb3⟩
          have hdr := hide (hs.out.ak (sndS s) o d fin)
          obtain ⟨t, ht⟩ : ∃ t, Hid (akX (sndS s) s o d fin = t) := ⟨_, hide rfl⟩
          rw [ht.out] at hdr owng ⊢
          have gb3 : Chg (fun b => False) b2 b3 := Chg.trans Chg.go (Ext.chg hb3 _)
          have zb3 := hb3.size
          (try simp at zb3)
          have yb3 : b2.heap.size ≤ b3.heap.size := gb3.size
          have hs_b3 := hide (hs_b2.out.chg gb3 xom)
          have hr_b3 := hide (hr_b2.out.chg gb3 xom)
          have hx_b3 := hide (hx_b2.out.chg gb3 xom)
          have ox_b3 := hide (OwnSnB.chg ox_b2.out gb3 xap)
          have hgwb3 : Chg (fun b => b = p ∨ w.heap.size ≤ b) w b3 := Chg.trans hgwb2 (Chg.mono (T := fun b => b = p ∨ w.heap.size ≤ b) gb3 xsub)
          have hcub3 := hcub2.stays gb3 (fun b h => xom)
          clear hs_b2 hr_b2 hx_b2 ox_b2 hgwb2 hcub2 bs0 bs1 bs2 bs3 bs4 bs5 bs6 bs7 bs8 bs9 bs10 bs11 bsF kbs br0 br1 br2 br3 br4 br5 br6 br7 br8 br9 br10 br11 brF kbr bx0 bx1 bx2 bx3 bx4 bx5 bx6 bx7 bx8 bx9 bx10 bx11 bxF kbx nesr ners nesx nexs nerx nexr
          clear gb3 hb3
          obtain ⟨bs0, bs1, bs2, bs3, bs4, bs5, bs6, bs7, bs8, bs9, bs10, bs11, bsF, kbs⟩ := BoxV.a12 hs_b3.out
          obtain ⟨br0, br1, br2, br3, br4, br5, br6, br7, br8, br9, br10, br11, brF, kbr⟩ := BoxV.a12 hr_b3.out
          obtain ⟨bx0, bx1, bx2, bx3, bx4, bx5, bx6, bx7, bx8, bx9, bx10, bx11, bxF, kbx⟩ := BoxV.a12 hx_b3.out
          have ⟨nesr, ners⟩ := ne2 (show w.heap.size ≠ w.heap.size + 1 by omega)
          have ⟨nesx, nexs⟩ := ne2 (show w.heap.size ≠ w.heap.size + 1 + 1 by omega)
          have ⟨nerx, nexr⟩ := ne2 (show w.heap.size + 1 ≠ w.heap.size + 1 + 1 by omega)
          (try simp only [World.size_alloc, World.size_drew, World.size_setCell] at owng)
          replace owng := hide owng
          have hset := BoxV.set hx_b3.out [.int .i64 t.st, .int .i64 t.z, .int .i64 t.b, .int .i64 t.e, .slice g1 t.xs.length k1, .slice g2 t.p.length k2, .slice g3 t.f.length k3, .slice g4 t.k.length k4, .int .i64 t.fi, .int .i64 t.fk, .int .i64 t.se, .int .i64 t.co] rfl
          simp only [setFrom, Nat.zero_add, Nat.reduceAdd] at hset
          have hzs := hide (hs_b3.out.chg hset.2 xom)
          have hzr := hide (hr_b3.out.chg hset.2 xom)
          have hzx := hide hset.1
          have ozx := hide (OwnSnB.chg ox_b3.out hset.2 xap)
          have ozg := hide (OwnSnV.chg owng.out hset.2 xap)
          have uz := hcub3.stays hset.2 (fun b h => xom)
          have gz := hgwb3.trans (hset.2.mono (T := fun b => b = p ∨ w.heap.size ≤ b) xsub)
          have sz := hset.2.size
          clear hset
          go_wp2_with fail
          go_meet
          exact ⟨t, ⟨g1, g2, g3, g4⟩, k1, k2, k3, k4, _, _, hdr.out.mono (by omega), hzr.out, hzx.out, ⟨by omega, by omega, Or.inr (by omega)⟩, OwnSnB.above ozg.out (by omega), uz, gz, by omega⟩
        cases b7_
        rotate_left
        · skip
          go_wp2_with fail
          refine wp_region_flowC (fun b => b = p) 4 [(0, 1), (1, 1), (2, 1), (3, 0)] (by kernel_rfl) (by kernel_rfl) ?_
          (refine wpC_pure (v := ?_) rfl rfl (by rfl) ?_ ?_; rotate_left; (focus (intro ws hws; obtain ⟨q0, p0⟩ := hws.row (k := w.heap.size) xpf xom; go_simp; (try with_reducible rfl); done)))
          try simp only [nrm, nrg]
          (refine wpC_pure (v := ?_) rfl rfl (by rfl) ?_ ?_; rotate_left; (focus (intro ws hws; go_simp; (try with_reducible rfl); done)))
          try simp only [nrm, nrg]
          (refine wpC_pure (v := ?_) rfl rfl (by rfl) ?_ ?_; rotate_left; (focus (intro ws hws; obtain ⟨q0, p0⟩ := hws.row (k := w.heap.size) xpf xom; go_simp; (try with_reducible rfl); done)))
          try simp only [nrm, nrg]
          (refine wpC_call 133 ?_ rfl rfl (by rfl) ?_ ?_; rotate_left; (focus (go_simp; (try with_reducible rfl); done)))
          refine (l9Some_any p code s a c1 c2 c3 c4 lo hi _ (hcuw1.stays (S := fun b => False) Chg.go (fun b h => xom)) hany.out (OwnSnB.snv (OwnSnB.chg (S := fun b => b = p) ox_w1.out Chg.go xap)) hlo (by first | omega | (simp; omega))).mono ?_
          rintro en b2 ⟨o, d, fin, rfl, ho1, hds, hcub2, hb2⟩
          refine ⟨_, rfl, hb2, ?_⟩
          try simp only [nrm, nrg]
          have gb2 : Chg (fun b => b = p) w1 b2 := Chg.trans Chg.go (Chg.mono (T := fun b => b = p) hb2 xsub)
          have zb2 := hb2.size
          (try simp at zb2)
          have yb2 : w1.heap.size ≤ b2.heap.size := gb2.size
          have hs_b2 := hide (hs_w1.out.chg gb2 xom)
          have hr_b2 := hide (hr_w1.out.chg gb2 xom)
          have hx_b2 := hide (hx_w1.out.chg gb2 xom)
          have ox_b2 := hide (OwnSnB.chg ox_w1.out gb2 xap)
          have hgwb2 : Chg (fun b => b = p ∨ w.heap.size ≤ b) w b2 := Chg.trans hgww1 (Chg.mono (T := fun b => b = p ∨ w.heap.size ≤ b) gb2 xsub)
          clear hs_w1 hr_w1 hx_w1 ox_w1 hgww1 hcuw1 bs0 bs1 bs2 bs3 bs4 bs5 bs6 bs7 bs8 bs9 bs10 bs11 bsF kbs br0 br1 br2 br3 br4 br5 br6 br7 br8 br9 br10 br11 brF kbr bx0 bx1 bx2 bx3 bx4 bx5 bx6 bx7 bx8 bx9 bx10 bx11 bxF kbx nesr ners nesx nexs nerx nexr
          clear gb2 hb2
          obtain ⟨bs0, bs1, bs2, bs3, bs4, bs5, bs6, bs7, bs8, bs9, bs10, bs11, bsF, kbs⟩ := BoxV.a12 hs_b2.out
          obtain ⟨br0, br1, br2, br3, br4, br5, br6, br7, br8, br9, br10, br11, brF, kbr⟩ := BoxV.a12 hr_b2.out
          obtain ⟨bx0, bx1, bx2, bx3, bx4, bx5, bx6, bx7, bx8, bx9, bx10, bx11, bxF, kbx⟩ := BoxV.a12 hx_b2.out
          have ⟨nesr, ners⟩ := ne2 (show w.heap.size ≠ w.heap.size + 1 by omega)
          have ⟨nesx, nexs⟩ := ne2 (show w.heap.size ≠ w.heap.size + 1 + 1 by omega)
          have ⟨nerx, nexr⟩ := ne2 (show w.heap.size + 1 ≠ w.heap.size + 1 + 1 by omega)
          refine wpF_done rfl ?_
          simp only [List.drop_succ_cons, List.drop_zero, List.drop_nil]
          go_wp2_with fail
          refine (LosePiece_spec s a c1 c2 c3 c4 o d fin _ (OwnSnV.read (OwnSnB.snv (OwnSnB.chg (S := fun b => b = p) ox_b2.out Chg.go xap))) (by omega) (by omega) (by omega) (by omega) (by omega) hV.out).mono ?_
          rintro en b3 ⟨g1, g2, g3, g4, k1, k2, k3, k4, rfl, owng, hb3⟩
          have hdr := hide (hs.out.lo (sndS s) o d fin)
          obtain ⟨t, ht⟩ : ∃ t, Hid (loX (sndS s) s o d fin = t) := ⟨_, hide rfl⟩
          rw [ht.out] at hdr owng ⊢
          have gb3 : Chg (fun b => False) b2 b3 := Chg.trans Chg.go (Ext.chg hb3 _)
          have zb3 := hb3.size
          (try simp at zb3)
          have yb3 : b2.heap.size ≤ b3.heap.size := gb3.size
          have hs_b3 := hide (hs_b2.out.chg gb3 xom)
          have hr_b3 := hide (hr_b2.out.chg gb3 xom)
          have hx_b3 := hide (hx_b2.out.chg gb3 xom)
          have ox_b3 := hide (OwnSnB.chg ox_b2.out gb3 xap)
          have hgwb3 : Chg (fun b => b = p ∨ w.heap.size ≤ b) w b3 := Chg.trans hgwb2 (Chg.mono (T := fun b => b = p ∨ w.heap.size ≤ b) gb3 xsub)
          have hcub3 := hcub2.stays gb3 (fun b h => xom)
          clear hs_b2 hr_b2 hx_b2 ox_b2 hgwb2 hcub2 bs0 bs1 bs2 bs3 bs4 bs5 bs6 bs7 bs8 bs9 bs10 bs11 bsF kbs br0 br1 br2 br3 br4 br5 br6 br7 br8 br9 br10 br11 brF kbr bx0 bx1 bx2 bx3 bx4 bx5 bx6 bx7 bx8 bx9 bx10 bx11 bxF kbx nesr ners nesx nexs nerx nexr
          clear gb3 hb3
          obtain ⟨bs0, bs1, bs2, bs3, bs4, bs5, bs6, bs7, bs8, bs9, bs10, bs11, bsF, kbs⟩ := BoxV.a12 hs_b3.out
          obtain ⟨br0, br1, br2, br3, br4, br5, br6, br7, br8, br9, br10, br11, brF, kbr⟩ := BoxV.a12 hr_b3.out
          obtain ⟨bx0, bx1, bx2, bx3, bx4, bx5, bx6, bx7, bx8, bx9, bx10, bx11, bxF, kbx⟩ := BoxV.a12 hx_b3.out
          have ⟨nesr, ners⟩ := ne2 (show w.heap.size ≠ w.heap.size + 1 by omega)
          have ⟨nesx, nexs⟩ := ne2 (show w.heap.size ≠ w.heap.size + 1 + 1 by omega)
          have ⟨nerx, nexr⟩ := ne2 (show w.heap.size + 1 ≠ w.heap.size + 1 + 1 by omega)
          (try simp only [World.size_alloc, World.size_drew, World.size_setCell] at owng)
          replace owng := hide owng
          have hset := BoxV.set hx_b3.out [.int .i64 t.st, .int .i64 t.z, .int .i64 t.b, .int .i64 t.e, .slice g1 t.xs.length k1, .slice g2 t.p.length k2, .slice g3 t.f.length k3, .slice g4 t.k.length k4, .int .i64 t.fi, .int .i64 t.fk, .int .i64 t.se, .int .i64 t.co] rfl
          simp only [setFrom, Nat.zero_add, Nat.reduceAdd] at hset
          have hzs := hide (hs_b3.out.chg hset.2 xom)
          have hzr := hide (hr_b3.out.chg hset.2 xom)
          have hzx := hide hset.1
          have ozx := hide (OwnSnB.chg ox_b3.out hset.2 xap)
          have ozg := hide (OwnSnV.chg owng.out hset.2 xap)
          have uz := hcub3.stays hset.2 (fun b h => xom)
          have gz := hgwb3.trans (hset.2.mono (T := fun b => b = p ∨ w.heap.size ≤ b) xsub)
          have sz := hset.2.size
          clear hset
          go_wp2_with fail
          go_meet
          exact ⟨t, ⟨g1, g2, g3, g4⟩, k1, k2, k3, k4, _, _, hdr.out.mono (by omega), hzr.out, hzx.out, ⟨by omega, by omega, Or.inr (by omega)⟩, OwnSnB.above ozg.out (by omega), uz, gz, by omega⟩
        cases b8_
        rotate_left
        · skip
          go_wp2_with fail
          refine (l1Once_any p code 2 _ (hcuw1.stays (S := fun b => False) Chg.go (fun b h => xom))).mono ?_
          rintro en b2 ⟨q, rfl, hcub2, hb2⟩
          have gb2 : Chg (fun b => b = p) w1 b2 := Chg.trans Chg.go (Chg.mono (T := fun b => b = p) hb2 xsub)
          have zb2 := hb2.size
          (try simp at zb2)
          have yb2 : w1.heap.size ≤ b2.heap.size := gb2.size
          have hs_b2 := hide (hs_w1.out.chg gb2 xom)
          have hr_b2 := hide (hr_w1.out.chg gb2 xom)
          have hx_b2 := hide (hx_w1.out.chg gb2 xom)
          have ox_b2 := hide (OwnSnB.chg ox_w1.out gb2 xap)
          have hgwb2 : Chg (fun b => b = p ∨ w.heap.size ≤ b) w b2 := Chg.trans hgww1 (Chg.mono (T := fun b => b = p ∨ w.heap.size ≤ b) gb2 xsub)
          clear hs_w1 hr_w1 hx_w1 ox_w1 hgww1 hcuw1 bs0 bs1 bs2 bs3 bs4 bs5 bs6 bs7 bs8 bs9 bs10 bs11 bsF kbs br0 br1 br2 br3 br4 br5 br6 br7 br8 br9 br10 br11 brF kbr bx0 bx1 bx2 bx3 bx4 bx5 bx6 bx7 bx8 bx9 bx10 bx11 bxF kbx nesr ners nesx nexs nerx nexr
          clear gb2 hb2
          obtain ⟨bs0, bs1, bs2, bs3, bs4, bs5, bs6, bs7, bs8, bs9, bs10, bs11, bsF, kbs⟩ := BoxV.a12 hs_b2.out
          obtain ⟨br0, br1, br2, br3, br4, br5, br6, br7, br8, br9, br10, br11, brF, kbr⟩ := BoxV.a12 hr_b2.out
          obtain ⟨bx0, bx1, bx2, bx3, bx4, bx5, bx6, bx7, bx8, bx9, bx10, bx11, bxF, kbx⟩ := BoxV.a12 hx_b2.out
          have ⟨nesr, ners⟩ := ne2 (show w.heap.size ≠ w.heap.size + 1 by omega)
          have ⟨nesx, nexs⟩ := ne2 (show w.heap.size ≠ w.heap.size + 1 + 1 by omega)
          have ⟨nerx, nexr⟩ := ne2 (show w.heap.size + 1 ≠ w.heap.size + 1 + 1 by omega)
          cases q
          · skip
            go_wp2_with fail
            go_meet
            exact ⟨s, a, c1, c2, c3, c4, lo, hi, hs.out.mono (by omega), hr_b2.out, hx_b2.out, ⟨Nat.le_refl _, by omega, Or.inl hhi⟩, ox_b2.out, hcub2, hgwb2, by omega⟩
          · skip
            go_wp2_with fail
            refine (CloseSender_spec s a c1 c2 c3 c4 _ (OwnSnV.read (OwnSnB.snv (OwnSnB.chg (S := fun b => b = p) ox_b2.out Chg.go xap))) (by omega) (by omega) (by omega)).mono ?_
            rintro en b3 ⟨g1, g2, g3, g4, k1, k2, k3, k4, rfl, owng, hb3⟩
            have hdr := hide (hs.out.cl (sndS s))
            obtain ⟨t, ht⟩ : ∃ t, Hid (clX (sndS s) s = t) := ⟨_, hide rfl⟩
            rw [ht.out] at hdr owng ⊢
            have gb3 : Chg (fun b => False) b2 b3 := Chg.trans Chg.go (Ext.chg hb3 _)
            have zb3 := hb3.size
            (try simp at zb3)
            have yb3 : b2.heap.size ≤ b3.heap.size := gb3.size
            have hs_b3 := hide (hs_b2.out.chg gb3 xom)
            have hr_b3 := hide (hr_b2.out.chg gb3 xom)
            have hx_b3 := hide (hx_b2.out.chg gb3 xom)
            have ox_b3 := hide (OwnSnB.chg ox_b2.out gb3 xap)
            have hgwb3 : Chg (fun b => b = p ∨ w.heap.size ≤ b) w b3 := Chg.trans hgwb2 (Chg.mono (T := fun b => b = p ∨ w.heap.size ≤ b) gb3 xsub)
            have hcub3 := hcub2.stays gb3 (fun b h => xom)
            clear hs_b2 hr_b2 hx_b2 ox_b2 hgwb2 hcub2 bs0 bs1 bs2 bs3 bs4 bs5 bs6 bs7 bs8 bs9 bs10 bs11 bsF kbs br0 br1 br2 br3 br4 br5 br6 br7 br8 br9 br10 br11 brF kbr bx0 bx1 bx2 bx3 bx4 bx5 bx6 bx7 bx8 bx9 bx10 bx11 bxF kbx nesr ners nesx nexs nerx nexr
            clear gb3 hb3
            obtain ⟨bs0, bs1, bs2, bs3, bs4, bs5, bs6, bs7, bs8, bs9, bs10, bs11, bsF, kbs⟩ := BoxV.a12 hs_b3.out
            obtain ⟨br0, br1, br2, br3, br4, br5, br6, br7, br8, br9, br10, br11, brF, kbr⟩ := BoxV.a12 hr_b3.out
            obtain ⟨bx0, bx1, bx2, bx3, bx4, bx5, bx6, bx7, bx8, bx9, bx10, bx11, bxF, kbx⟩ := BoxV.a12 hx_b3.out
            have ⟨nesr, ners⟩ := ne2 (show w.heap.size ≠ w.heap.size + 1 by omega)
            have ⟨nesx, nexs⟩ := ne2 (show w.heap.size ≠ w.heap.size + 1 + 1 by omega)
            have ⟨nerx, nexr⟩ := ne2 (show w.heap.size + 1 ≠ w.heap.size + 1 + 1 by omega)
            (try simp only [World.size_alloc, World.size_drew, World.size_setCell] at owng)
            replace owng := hide owng
            have hset := BoxV.set hx_b3.out [.int .i64 t.st, .int .i64 t.z, .int .i64 t.b, .int .i64 t.e, .slice g1 t.xs.length k1, .slice g2 t.p.length k2, .slice g3 t.f.length k3, .slice g4 t.k.length k4, .int .i64 t.fi, .int .i64 t.fk, .int .i64 t.se, .int .i64 t.co] rfl
            simp only [setFrom, Nat.zero_add, Nat.reduceAdd] at hset
            have hzs := hide (hs_b3.out.chg hset.2 xom)
            have hzr := hide (hr_b3.out.chg hset.2 xom)
            have hzx := hide hset.1
            have ozx := hide (OwnSnB.chg ox_b3.out hset.2 xap)
            have ozg := hide (OwnSnV.chg owng.out hset.2 xap)
            have uz := hcub3.stays hset.2 (fun b h => xom)
            have gz := hgwb3.trans (hset.2.mono (T := fun b => b = p ∨ w.heap.size ≤ b) xsub)
            have sz := hset.2.size
            clear hset
            go_wp2_with fail
            go_meet
            exact ⟨t, ⟨g1, g2, g3, g4⟩, k1, k2, k3, k4, _, _, hdr.out.mono (by omega), hzr.out, hzx.out, ⟨by omega, by omega, Or.inr (by omega)⟩, OwnSnB.above ozg.out (by omega), uz, gz, by omega⟩
        cases b9_
        rotate_left
        · skip
          go_wp2_with fail
          refine (l1Once_any p code 4 _ (hcuw1.stays (S := fun b => False) Chg.go (fun b h => xom))).mono ?_
          rintro en b2 ⟨q, rfl, hcub2, hb2⟩
          have gb2 : Chg (fun b => b = p) w1 b2 := Chg.trans Chg.go (Chg.mono (T := fun b => b = p) hb2 xsub)
          have zb2 := hb2.size
          (try simp at zb2)
          have yb2 : w1.heap.size ≤ b2.heap.size := gb2.size
          have hs_b2 := hide (hs_w1.out.chg gb2 xom)
          have hr_b2 := hide (hr_w1.out.chg gb2 xom)
          have hx_b2 := hide (hx_w1.out.chg gb2 xom)
          have ox_b2 := hide (OwnSnB.chg ox_w1.out gb2 xap)
          have hgwb2 : Chg (fun b => b = p ∨ w.heap.size ≤ b) w b2 := Chg.trans hgww1 (Chg.mono (T := fun b => b = p ∨ w.heap.size ≤ b) gb2 xsub)
          clear hs_w1 hr_w1 hx_w1 ox_w1 hgww1 hcuw1 bs0 bs1 bs2 bs3 bs4 bs5 bs6 bs7 bs8 bs9 bs10 bs11 bsF kbs br0 br1 br2 br3 br4 br5 br6 br7 br8 br9 br10 br11 brF kbr bx0 bx1 bx2 bx3 bx4 bx5 bx6 bx7 bx8 bx9 bx10 bx11 bxF kbx nesr ners nesx nexs nerx nexr
          clear gb2 hb2
          obtain ⟨bs0, bs1, bs2, bs3, bs4, bs5, bs6, bs7, bs8, bs9, bs10, bs11, bsF, kbs⟩ := BoxV.a12 hs_b2.out
          obtain ⟨br0, br1, br2, br3, br4, br5, br6, br7, br8, br9, br10, br11, brF, kbr⟩ := BoxV.a12 hr_b2.out
          obtain ⟨bx0, bx1, bx2, bx3, bx4, bx5, bx6, bx7, bx8, bx9, bx10, bx11, bxF, kbx⟩ := BoxV.a12 hx_b2.out
          have ⟨nesr, ners⟩ := ne2 (show w.heap.size ≠ w.heap.size + 1 by omega)
          have ⟨nesx, nexs⟩ := ne2 (show w.heap.size ≠ w.heap.size + 1 + 1 by omega)
          have ⟨nerx, nexr⟩ := ne2 (show w.heap.size + 1 ≠ w.heap.size + 1 + 1 by omega)
          cases q
          · skip
            go_wp2_with fail
            go_meet
            exact ⟨s, a, c1, c2, c3, c4, lo, hi, hs.out.mono (by omega), hr_b2.out, hx_b2.out, ⟨Nat.le_refl _, by omega, Or.inl hhi⟩, ox_b2.out, hcub2, hgwb2, by omega⟩
          · skip
            go_wp2_with fail
            refine wp_region_flowC (fun b => b = p ∨ b = w.heap.size + 1 + 1) 8 [(0, 1), (1, 1), (2, 0), (3, 0), (4, 1), (5, 1), (6, 1), (7, 0)] (by kernel_rfl) (by kernel_rfl) ?_
            (refine wpC_pure (v := ?_) rfl rfl (by rfl) ?_ ?_; rotate_left; (focus (intro ws hws; obtain ⟨q0, p0⟩ := hws.row (k := w.heap.size) xpf xom; go_simp; (try with_reducible rfl); done)))
            try simp only [nrm, nrg]
            (refine wpC_pure (v := ?_) rfl rfl (by rfl) ?_ ?_; rotate_left; (focus (intro ws hws; go_simp; (try with_reducible rfl); done)))
            try simp only [nrm, nrg]
            (refine wpC_call 87 ?_ rfl rfl (by rfl) ?_ ?_; rotate_left; (focus (go_simp; (try with_reducible rfl); done)))
            refine (l1Below_pos p code 4 _ (by omega) (hcub2.stays (S := fun b => False) Chg.go (fun b h => xom))).mono ?_
            rintro en b3 ⟨u, rfl, ⟨u0, u1⟩, hcub3, hb3⟩
            refine ⟨_, rfl, (Chg.mono hb3 (fun b _ h => Or.inl h)), ?_⟩
            try simp only [nrm, nrg]
            have gb3 : Chg (fun b => b = p) b2 b3 := Chg.trans Chg.go (Chg.mono (T := fun b => b = p) hb3 xsub)
            have zb3 := hb3.size
            (try simp at zb3)
            have yb3 : b2.heap.size ≤ b3.heap.size := gb3.size
            have hs_b3 := hide (hs_b2.out.chg gb3 xom)
            have hr_b3 := hide (hr_b2.out.chg gb3 xom)
            have hx_b3 := hide (hx_b2.out.chg gb3 xom)
            have ox_b3 := hide (OwnSnB.chg ox_b2.out gb3 xap)
            have hgwb3 : Chg (fun b => b = p ∨ w.heap.size ≤ b) w b3 := Chg.trans hgwb2 (Chg.mono (T := fun b => b = p ∨ w.heap.size ≤ b) gb3 xsub)
            clear hs_b2 hr_b2 hx_b2 ox_b2 hgwb2 hcub2 bs0 bs1 bs2 bs3 bs4 bs5 bs6 bs7 bs8 bs9 bs10 bs11 bsF kbs br0 br1 br2 br3 br4 br5 br6 br7 br8 br9 br10 br11 brF kbr bx0 bx1 bx2 bx3 bx4 bx5 bx6 bx7 bx8 bx9 bx10 bx11 bxF kbx nesr ners nesx nexs nerx nexr
            clear gb3 hb3
            obtain ⟨bs0, bs1, bs2, bs3, bs4, bs5, bs6, bs7, bs8, bs9, bs10, bs11, bsF, kbs⟩ := BoxV.a12 hs_b3.out
            obtain ⟨br0, br1, br2, br3, br4, br5, br6, br7, br8, br9, br10, br11, brF, kbr⟩ := BoxV.a12 hr_b3.out
            obtain ⟨bx0, bx1, bx2, bx3, bx4, bx5, bx6, bx7, bx8, bx9, bx10, bx11, bxF, kbx⟩ := BoxV.a12 hx_b3.out
            have ⟨nesr, ners⟩ := ne2 (show w.heap.size ≠ w.heap.size + 1 by omega)
            have ⟨nesx, nexs⟩ := ne2 (show w.heap.size ≠ w.heap.size + 1 + 1 by omega)
            have ⟨nerx, nexr⟩ := ne2 (show w.heap.size + 1 ≠ w.heap.size + 1 + 1 by omega)
            (refine wpC_call 26 ?_ rfl rfl (by rfl) ?_ ?_; rotate_left; (focus (go_simp; (try with_reducible rfl); done)))
            refine (ResetSender_spec s a c1 c2 c3 c4 u _ (OwnSnV.read (OwnSnB.snv (OwnSnB.chg (S := fun b => b = p) ox_b3.out Chg.go xap))) (by omega) (by omega) (by omega)).mono ?_
            rintro en b4 ⟨g1, g2, g3, g4, k1, k2, k3, k4, rfl, owng, hb4⟩
            refine ⟨_, rfl, (Ext.chg hb4 _), ?_⟩
            try simp only [nrm, nrg]
            have hdr := hide (hs.out.rs (sndS s) u)
            obtain ⟨t, ht⟩ : ∃ t, Hid (rsX (sndS s) s u = t) := ⟨_, hide rfl⟩
            rw [ht.out] at hdr owng ⊢
            have gb4 : Chg (fun b => False) b3 b4 := Chg.trans Chg.go (Ext.chg hb4 _)
            have zb4 := hb4.size
            (try simp at zb4)
            have yb4 : b3.heap.size ≤ b4.heap.size := gb4.size
            have hs_b4 := hide (hs_b3.out.chg gb4 xom)
            have hr_b4 := hide (hr_b3.out.chg gb4 xom)
            have hx_b4 := hide (hx_b3.out.chg gb4 xom)
            have ox_b4 := hide (OwnSnB.chg ox_b3.out gb4 xap)
            have hgwb4 : Chg (fun b => b = p ∨ w.heap.size ≤ b) w b4 := Chg.trans hgwb3 (Chg.mono (T := fun b => b = p ∨ w.heap.size ≤ b) gb4 xsub)
            have hcub4 := hcub3.stays gb4 (fun b h => xom)
            clear hs_b3 hr_b3 hx_b3 ox_b3 hgwb3 hcub3 bs0 bs1 bs2 bs3 bs4 bs5 bs6 bs7 bs8 bs9 bs10 bs11 bsF kbs br0 br1 br2 br3 br4 br5 br6 br7 br8 br9 br10 br11 brF kbr bx0 bx1 bx2 bx3 bx4 bx5 bx6 bx7 bx8 bx9 bx10 bx11 bxF kbx nesr ners nesx nexs nerx nexr
            clear gb4 hb4
            obtain ⟨bs0, bs1, bs2, bs3, bs4, bs5, bs6, bs7, bs8, bs9, bs10, bs11, bsF, kbs⟩ := BoxV.a12 hs_b4.out
            obtain ⟨br0, br1, br2, br3, br4, br5, br6, br7, br8, br9, br10, br11, brF, kbr⟩ := BoxV.a12 hr_b4.out
            obtain ⟨bx0, bx1, bx2, bx3, bx4, bx5, bx6, bx7, bx8, bx9, bx10, bx11, bxF, kbx⟩ := BoxV.a12 hx_b4.out
            have ⟨nesr, ners⟩ := ne2 (show w.heap.size ≠ w.heap.size + 1 by omega)
            have ⟨nesx, nexs⟩ := ne2 (show w.heap.size ≠ w.heap.size + 1 + 1 by omega)
            have ⟨nerx, nexr⟩ := ne2 (show w.heap.size + 1 ≠ w.heap.size + 1 + 1 by omega)
            (try simp only [World.size_alloc, World.size_drew, World.size_setCell] at owng)
            replace owng := hide owng
            iterate 3 ((refine wpC_pure (v := ?_) rfl rfl (by rfl) ?_ ?_; rotate_left; (focus (intro ws hws; go_simp; (try with_reducible rfl); done))); try simp only [nrm, nrg])
            (refine wpC_store ?_ rfl rfl (by rfl) ?_ ?_ ?_; rotate_left; (focus (go_simp; (try with_reducible rfl); done)))
            · exact Chg.go
            try simp only [nrm, nrg]
            refine wpF_done rfl ?_
            simp only [List.drop_succ_cons, List.drop_zero, List.drop_nil]
            have hset := BoxV.set hx_b4.out [.int .i64 t.st, .int .i64 t.z, .int .i64 t.b, .int .i64 t.e, .slice g1 t.xs.length k1, .slice g2 t.p.length k2, .slice g3 t.f.length k3, .slice g4 t.k.length k4, .int .i64 t.fi, .int .i64 t.fk, .int .i64 t.se, .int .i64 t.co] rfl
            simp only [setFrom, Nat.zero_add, Nat.reduceAdd] at hset
            have hzs := hide (hs_b4.out.chg hset.2 xom)
            have hzr := hide (hr_b4.out.chg hset.2 xom)
            have hzx := hide hset.1
            have ozx := hide (OwnSnB.chg ox_b4.out hset.2 xap)
            have ozg := hide (OwnSnV.chg owng.out hset.2 xap)
            have uz := hcub4.stays hset.2 (fun b h => xom)
            have gz := hgwb4.trans (hset.2.mono (T := fun b => b = p ∨ w.heap.size ≤ b) xsub)
            have sz := hset.2.size
            clear hset
            go_wp2_with fail
            go_meet
            exact ⟨t, ⟨g1, g2, g3, g4⟩, k1, k2, k3, k4, _, _, hdr.out.mono (by omega), hzr.out, hzx.out, ⟨by omega, by omega, Or.inr (by omega)⟩, OwnSnB.above ozg.out (by omega), uz, gz, by omega⟩
        · exfalso
          simp at hb0 hb1 hb2 hb3 hb4 hb5 hb6 hb7 hb8 hb9
          omega
  case rest =>
    obtain ⟨wx, hwe⟩ : ∃ u, u = wc := ⟨_, rfl⟩
    subst hwe
    obtain ⟨t, g, k1, k2, k3, k4, l, h, hdr, kBr, kBx, hlh, kown, hcux, hgwx, hsz⟩ := hcut
    clear bs0 bs1 bs2 bs3 bs4 bs5 bs6 bs7 bs8 bs9 bs10 bs11 bsF kbs br0 br1 br2 br3 br4 br5 br6 br7 br8 br9 br10 br11 brF kbr bx0 bx1 bx2 bx3 bx4 bx5 bx6 bx7 bx8 bx9 bx10 bx11 bxF kbx nesr ners nesx nexs nerx nexr hs_w1 hr_w1 hx_w1 ox_w1 hcuw1 hgww1
    have hBr := hide kBr
    clear kBr
    have hBx := hide kBx
    clear kBx
    replace kown := hide kown
    replace hdr := hide hdr
    obtain ⟨br0, br1, br2, br3, br4, br5, br6, br7, br8, br9, br10, br11, brF, kbr⟩ := BoxV.a12 hBr.out
    obtain ⟨bx0, bx1, bx2, bx3, bx4, bx5, bx6, bx7, bx8, bx9, bx10, bx11, bxF, kbx⟩ := BoxV.a12 hBx.out
    have ⟨nerx, nexr⟩ := ne2 (show w.heap.size + 1 ≠ w.heap.size + 1 + 1 by omega)
    go_wp2
    refine bodyPost_ret (v := .agg #[.int .i64 t.st, .int .i64 t.z, .int .i64 t.b, .int .i64 t.e, .slice g.r t.xs.length k1, .slice g.p t.p.length k2, .slice g.f t.f.length k3, .slice g.k t.k.length k4, .int .i64 t.fi, .int .i64 t.fk, .int .i64 t.se, .int .i64 t.co]) (by simp [results, Try.results136, go_sem, *]) rfl ⟨t, g, k1, k2, k3, k4, rfl, hdr.out, ?_, (hcux.stays (S := fun b => b = w.heap.size + 1) Chg.go (fun b h => xom)), ?_⟩
    · rcases hlh with ⟨j1, j2, j3 | j3⟩
      · exact OwnSnB.mono (OwnSnB.chg (S := fun b => b = p ∨ b = w.heap.size + 1) kown.out Chg.go xap) xpf xpf
      · exact OwnSnB.mono (OwnSnB.above (OwnSnV.chg (S := fun b => b = p ∨ b = w.heap.size + 1) (OwnSnB.snv kown.out) Chg.go xap) (by omega)) xpf xpf
    · exact Chg.mono (Chg.trans hgwx (Chg.mono (S := fun b => b = p ∨ b = w.heap.size + 1) (T := fun b => b = p ∨ w.heap.size ≤ b) Chg.go xsub)) (fun b h1 h2 => by (try dsimp only at h2 ⊢); omega)
end
end Go.Proofs.Ytjhgcbchdnoleaa
