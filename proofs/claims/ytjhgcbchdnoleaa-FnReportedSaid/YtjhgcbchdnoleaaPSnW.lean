/-
  Part of the proof: SnW.
-/
import Derived.Test.YtjhgcbchdnoleaaPNrg
import Derived.Test.YtjhgcbchdnoleaaPG9
namespace Go.Proofs.Ytjhgcbchdnoleaa
section
open Go.ChangeShapes Go.WideShapes Go.ChangeAt Go.RowKit
set_option linter.unusedSimpArgs false
set_option linter.unusedVariables false
theorem rgs_mem : ∀ {l : List Rg} {r : Rg}, isRgs l = true → r ∈ l → 0 ≤ r.1 ∧ r.1 < r.2 := by
  intro l r h hr
  have := rgs_fine h r hr
  have := rgFine_bd this
  omega
/-- A drawn piece. -/
def DrewPc (p : Nat) (code : Value) (w : World) (en : Ending) (w' : World) : Prop :=
  ∃ (o : Int) (d : ByteArray) (fin : Bool), en = .returned (.agg #[.int .i64 o, .string d, .bool fin]) ∧ (-1 ≤ o ∧ o ≤ 1000) ∧ (d.size : Int) ≤ 1000 ∧ CurAt w' p code ∧ Chg (fun b => b = p) w w'
theorem pkS_size (r : Rn) (o n : Int) (m : Int) (h0 : 0 ≤ m) (hn : n ≤ m) : ((pkS r o n).size : Int) ≤ m := by
  unfold pkS
  split
  · rename_i h
    rw [peekS_size]
    simp only [pkOk, peekOk, Bool.and_eq_true, decide_eq_true_eq] at h
    omega
  · exact h0
set_option maxHeartbeats 8000000 in
set_option maxRecDepth 100000 in
theorem l9Some_any (p : Nat) (code : Value) (s : Sn) (a : Ads) (c1 c2 c3 c4 lo hi : Nat) (w : World) (hc : CurAt w p code) (hs : SnAny s) (ho : OwnSnV lo hi w a c2 ⟨s.xs, s.p, s.f, s.k⟩) (hlo : p < lo) (hhi : hi ≤ w.heap.size) :
    Calls Try.prog 133 #[.pointer (some ⟨p, 0, none⟩), .agg #[.int .i64 s.st, .int .i64 s.z, .int .i64 s.b, .int .i64 s.e, .slice a.r s.xs.length c1, .slice a.p s.p.length c2, .slice a.f s.f.length c3, .slice a.k s.k.length c4, .int .i64 s.fi, .int .i64 s.fk, .int .i64 s.se, .int .i64 s.co]] w (DrewPc p code w) := by
  have hlen := hs.len
  have hse := hs.e
  have hfb := hs.fi
  have hfl := hs.f
  have hrf := hide hs.rf
  replace hs := hide hs
  replace ho := hide ho
  obtain ⟨st, z, b, e, xs, ps, f, k, fi, fk, se, co⟩ := s
  obtain ⟨ar, ap, af, ak⟩ := a
  dsimp only at *
  have hpl := hc.lt
  go_enter Try.func133, Try.ntmps133
  have hgw0 : Chg (fun b => b = p ∨ w.heap.size ≤ b) w w := Chg.refl _ _
  obtain ⟨q0, hq0⟩ : ∃ q, (((f.length : Nat) : Int) == 0) = q := ⟨_, rfl⟩
  go_upto_if 11 with fail
  obtain ⟨w1, h0w1⟩ : ∃ u, u = ((w.alloc (.cells #[.int .i64 st, .int .i64 z, .int .i64 b, .int .i64 e, .slice ar xs.length c1, .slice ap ps.length c2, .slice af f.length c3, .slice ak k.length c4, .int .i64 fi, .int .i64 fk, .int .i64 se, .int .i64 co] 32)).alloc (.cells #[.int .i64 0, .string ⟨#[]⟩, .bool false] 55)) := ⟨_, rfl⟩
  rw [← h0w1]
  have hw1 : Ext ((w.alloc (.cells #[.int .i64 st, .int .i64 z, .int .i64 b, .int .i64 e, .slice ar xs.length c1, .slice ap ps.length c2, .slice af f.length c3, .slice ak k.length c4, .int .i64 fi, .int .i64 fk, .int .i64 se, .int .i64 co] 32)).alloc (.cells #[.int .i64 0, .string ⟨#[]⟩, .bool false] 55)) w1 := h0w1 ▸ Ext.go
  have gw1 : Chg (fun b => False) w w1 := Chg.trans Chg.go (Ext.chg hw1 _)
  have zw1 := hw1.size
  (try simp at zw1)
  have yw1 : w.heap.size ≤ w1.heap.size := gw1.size
  have hs_w1 := hide (BoxV.chg (BoxV.new w [.int .i64 st, .int .i64 z, .int .i64 b, .int .i64 e, .slice ar xs.length c1, .slice ap ps.length c2, .slice af f.length c3, .slice ak k.length c4, .int .i64 fi, .int .i64 fk, .int .i64 se, .int .i64 co] 32) (S := fun b => False) (Chg.trans Chg.go (Ext.chg hw1 _)) xom)
  have hr_w1 := hide (BoxV.chg (show BoxV (w.heap.size + 1) _ [.int .i64 0, .string ⟨#[]⟩, .bool false] from by have h := (BoxV.new (w.alloc (.cells #[.int .i64 st, .int .i64 z, .int .i64 b, .int .i64 e, .slice ar xs.length c1, .slice ap ps.length c2, .slice af f.length c3, .slice ak k.length c4, .int .i64 fi, .int .i64 fk, .int .i64 se, .int .i64 co] 32)) [.int .i64 0, .string ⟨#[]⟩, .bool false] 55); simpa only [World.size_alloc, World.size_drew] using h) (S := fun b => False) (Chg.trans Chg.go (Ext.chg hw1 _)) xom)
  have ox_w1 := hide (OwnSnV.chg ho.out gw1 xap)
  have hgww1 : Chg (fun b => b = p ∨ w.heap.size ≤ b) w w1 := Chg.trans hgw0 (Chg.mono (T := fun b => b = p ∨ w.heap.size ≤ b) gw1 xsub)
  have hcuw1 := hc.stays gw1 (fun b h => xom)
  clear ho hgw0
  clear gw1 hw1
  obtain ⟨bs0, bs1, bs2, bs3, bs4, bs5, bs6, bs7, bs8, bs9, bs10, bs11, bsF, kbs⟩ := BoxV.a12 hs_w1.out
  obtain ⟨br0, br1, br2, brF, kbr⟩ := BoxV.a3 hr_w1.out
  have ⟨nesr, ners⟩ := ne2 (show w.heap.size ≠ w.heap.size + 1 by omega)
  clear h0w1
  cases q0
  rotate_left
  · skip
    by_cases h1 : fi < 0
    · skip
      have hmx : max fi 0 = 0 := by omega
      go_wp2
      refine bodyPost_ret (v := .agg #[.int .i64 0, .string ⟨#[]⟩, .bool (fk == 2)]) (by simp [results, Try.results133, go_sem, *]) rfl ⟨0, ⟨#[]⟩, (fk == 2), rfl, ⟨by omega, by omega⟩, by decide, (hcuw1.stays (S := fun b => b = w.heap.size + 1) Chg.go (fun b h => xom)), ?_⟩
      · exact Chg.mono (Chg.trans hgww1 (Chg.mono (S := fun b => b = p ∨ b = w.heap.size + 1) (T := fun b => b = p ∨ w.heap.size ≤ b) Chg.go xsub)) (fun b h1 h2 => by (try dsimp only at h2 ⊢); omega)
    · skip
      have hmx : max fi 0 = fi := by omega
      go_wp2
      refine bodyPost_ret (v := .agg #[.int .i64 fi, .string ⟨#[]⟩, .bool (fk == 2)]) (by simp [results, Try.results133, go_sem, *]) rfl ⟨fi, ⟨#[]⟩, (fk == 2), rfl, ⟨by omega, by omega⟩, by decide, (hcuw1.stays (S := fun b => b = w.heap.size + 1) Chg.go (fun b h => xom)), ?_⟩
      · exact Chg.mono (Chg.trans hgww1 (Chg.mono (S := fun b => b = p ∨ b = w.heap.size + 1) (T := fun b => b = p ∨ w.heap.size ≤ b) Chg.go xsub)) (fun b h1 h2 => by (try dsimp only at h2 ⊢); omega)
  · skip
    have h0 : ¬ f.length = 0 := by simpa using hq0
    replace hq0 := hide hq0
    have h0p : (0 : Int) < (f.length : Int) := by omega
    go_upto_region 3 with fail
    go_cut [5] (fun tq wx => ∃ (B : Nat) (x1 x2 : Int), tq = .pointer (some ⟨B, 0, none⟩) ∧ w1.heap.size ≤ B ∧ BoxV B wx [.int .i64 x1, .int .i64 x2] ∧ (x1, x2) ∈ f ∧ BoxV (w.heap.size) wx [.int .i64 st, .int .i64 z, .int .i64 b, .int .i64 e, .slice ar xs.length c1, .slice ap ps.length c2, .slice af f.length c3, .slice ak k.length c4, .int .i64 fi, .int .i64 fk, .int .i64 se, .int .i64 co] ∧ BoxV (w.heap.size + 1) wx [.int .i64 0, .string ⟨#[]⟩, .bool false] ∧ OwnSnV lo hi wx ⟨ar, ap, af, ak⟩ c2 ⟨xs, ps, f, k⟩ ∧ CurAt wx p code ∧ Chg (fun b => b = p ∨ w.heap.size ≤ b) w wx ∧ w1.heap.size ≤ wx.heap.size)
    case first =>
      have hrd := (OwnSnV.read ox_w1.out).f
      dsimp only at hrd
      obtain ⟨l1, u1, l2, u2, l3, u3, l4, u4, hbb, hap, q1, q2, q3, q4⟩ := ox_w1.out
      dsimp only at q3
      rcases q3 with hnil | ⟨bf, off, haf, hf1, hf2, -, hfx⟩
      · rw [hnil] at h0; simp at h0
      subst haf
      have lbf : bf < w1.heap.size := by omega
      have nbf : bf ≠ p := by omega
      clear hap q1 q2 q4 hrd
      go_wp2_with fail
      refine wp_region_flowC (fun b => b = p ∨ w1.heap.size ≤ b) 10 [(0, 1), (1, 1), (2, 1), (3, 1), (4, 1), (5, 1), (6, 11), (7, 1), (8, 1), (9, 0)] (by kernel_rfl) (by kernel_rfl) ?_
      (refine wpC_pure (v := ?_) rfl rfl (by rfl) ?_ ?_; rotate_left; (focus (intro ws hws; go_simp; (try with_reducible rfl); done)))
      try simp only [nrm, nrg]
      (refine wpC_pure (v := ?_) rfl rfl (by rfl) ?_ ?_; rotate_left; (focus (intro ws hws; obtain ⟨q0, p0⟩ := hws.row (k := w.heap.size) xpf xom; go_simp; (try with_reducible rfl); done)))
      try simp only [nrm, nrg]
      iterate 2 ((refine wpC_pure (v := ?_) rfl rfl (by rfl) ?_ ?_; rotate_left; (focus (intro ws hws; go_simp; (try with_reducible rfl); done))); try simp only [nrm, nrg])
      (refine wpC_pure (v := ?_) rfl rfl (by rfl) ?_ ?_; rotate_left; (focus (intro ws hws; obtain ⟨q0, p0⟩ := hws.row (k := w.heap.size) xpf xom; go_simp; (try with_reducible rfl); done)))
      try simp only [nrm, nrg]
      (refine wpC_pure (v := ?_) rfl rfl (by rfl) ?_ ?_; rotate_left; (focus (intro ws hws; go_simp; (try with_reducible rfl); done)))
      try simp only [nrm, nrg]
      (refine wpF_forkCA (o2 := [(0, 1), (1, 1), (2, 1), (3, 1), (4, 1), (5, 1), (9, 8), (6, 0), (7, 1), (8, 1)]) 87 ?_ (.pointer (some ⟨w1.heap.size, 0, none⟩)) (w1.drew.alloc (.cells #[.int .i64 0, .int .i64 0] 61)) rfl rfl rfl (by kernel_rfl) rfl rfl (Chg.refl _ _) (by rfl) (by rfl) ?_ (by go_simp) (Chg.alloc (Chg.refl _ _) _) ?_ ?_; rotate_left; (focus (go_simp; (try with_reducible rfl); done)))
      · skip
        refine (l1Below_pos p code f.length _ (by omega) (hcuw1.stays (S := fun b => False) Chg.go (fun b h => xom))).mono ?_
        rintro en b2 ⟨y, rfl, ⟨y0, y1⟩, hcub2, hb2⟩
        refine ⟨_, rfl, (Chg.mono hb2 (fun b _ h => Or.inl h)), ?_⟩
        try simp only [nrm, nrg]
        obtain ⟨j, rfl⟩ : ∃ j : Nat, y = (j : Int) := ⟨y.toNat, by omega⟩
        have hj : j < f.length := by omega
        obtain ⟨dx, dx2⟩ := hfx j hj
        have hmem : f.getD j dr ∈ f := by rw [List.getD_eq_getElem?_getD, List.getElem?_eq_getElem hj]; exact List.getElem_mem hj
        obtain ⟨⟨x1, x2⟩, hx0⟩ : ∃ x : Rg, Hid (f.getD j dr = x) := ⟨_, hide rfl⟩
        rw [hx0.out] at dx dx2 hmem
        dsimp only at dx dx2
        replace hmem := hide hmem
        clear hx0
        have gb2 : Chg (fun b => b = p) w1 b2 := Chg.trans Chg.go (Chg.mono (T := fun b => b = p) hb2 xsub)
        have zb2 := hb2.size
        (try simp at zb2)
        have yb2 : w1.heap.size ≤ b2.heap.size := gb2.size
        obtain ⟨qo, po⟩ := gb2.row (k := bf) (by omega) xom
        replace dx := (qo _).trans dx
        replace dx2 := (qo _).trans dx2
        clear qo po
        have hs_b2 := hide (hs_w1.out.chg gb2 xom)
        have hr_b2 := hide (hr_w1.out.chg gb2 xom)
        have ox_b2 := hide (OwnSnV.chg ox_w1.out gb2 xap)
        have hgwb2 : Chg (fun b => b = p ∨ w.heap.size ≤ b) w b2 := Chg.trans hgww1 (Chg.mono (T := fun b => b = p ∨ w.heap.size ≤ b) gb2 xsub)
        clear hs_w1 hr_w1 ox_w1 hgww1 hcuw1 bs0 bs1 bs2 bs3 bs4 bs5 bs6 bs7 bs8 bs9 bs10 bs11 bsF kbs br0 br1 br2 brF kbr nesr ners
        clear gb2 hb2
        obtain ⟨bs0, bs1, bs2, bs3, bs4, bs5, bs6, bs7, bs8, bs9, bs10, bs11, bsF, kbs⟩ := BoxV.a12 hs_b2.out
        obtain ⟨br0, br1, br2, brF, kbr⟩ := BoxV.a3 hr_b2.out
        have ⟨nesr, ners⟩ := ne2 (show w.heap.size ≠ w.heap.size + 1 by omega)
        (refine wpC_pure (v := ?_) rfl rfl (by rfl) ?_ ?_; rotate_left; (focus (intro ws hws; go_simp; (try with_reducible rfl); done)))
        try simp only [nrm, nrg]
        (refine wpC_pure (v := ?_) rfl rfl (by rfl) ?_ ?_; rotate_left; (focus (intro ws hws; obtain ⟨q0, p0⟩ := hws.row (k := bf) xpf xom; go_simp; (try with_reducible rfl); done)))
        try simp only [nrm, nrg]
        refine wpC_made (.pointer (some ⟨b2.heap.size, 0, none⟩)) (b2.alloc (.cells #[.int .i64 0, .int .i64 0] 61)) rfl rfl (by rfl) (by go_simp) (Chg.alloc (Chg.refl _ _) _) ?_
        try simp only [nrm, nrg]
        refine wpF_done rfl ?_
        simp only [List.drop_succ_cons, List.drop_zero, List.drop_nil]
        obtain ⟨b3, h0b3⟩ : ∃ u, u = (b2.alloc (.cells #[.int .i64 0, .int .i64 0] 61)) := ⟨_, rfl⟩
        rw [← h0b3]
        have hb3 : Ext (b2.alloc (.cells #[.int .i64 0, .int .i64 0] 61)) b3 := h0b3 ▸ Ext.go
        have gb3 : Chg (fun b => False) b2 b3 := Chg.trans Chg.go (Ext.chg hb3 _)
        have zb3 := hb3.size
        (try simp at zb3)
        have yb3 : b2.heap.size ≤ b3.heap.size := gb3.size
        obtain ⟨qo, po⟩ := gb3.row (k := bf) (by omega) xom
        replace dx := (qo _).trans dx
        replace dx2 := (qo _).trans dx2
        clear qo po
        have hs_b3 := hide (hs_b2.out.chg gb3 xom)
        have hr_b3 := hide (hr_b2.out.chg gb3 xom)
        have hq_b3 := hide (BoxV.chg (BoxV.new b2 [.int .i64 0, .int .i64 0] 61) (S := fun b => False) (Chg.trans Chg.go (Ext.chg hb3 _)) xom)
        have ox_b3 := hide (OwnSnV.chg ox_b2.out gb3 xap)
        have hgwb3 : Chg (fun b => b = p ∨ w.heap.size ≤ b) w b3 := Chg.trans hgwb2 (Chg.mono (T := fun b => b = p ∨ w.heap.size ≤ b) gb3 xsub)
        have hcub3 := hcub2.stays gb3 (fun b h => xom)
        clear hs_b2 hr_b2 ox_b2 hgwb2 hcub2 bs0 bs1 bs2 bs3 bs4 bs5 bs6 bs7 bs8 bs9 bs10 bs11 bsF kbs br0 br1 br2 brF kbr nesr ners
        clear gb3 hb3
        obtain ⟨bs0, bs1, bs2, bs3, bs4, bs5, bs6, bs7, bs8, bs9, bs10, bs11, bsF, kbs⟩ := BoxV.a12 hs_b3.out
        obtain ⟨br0, br1, br2, brF, kbr⟩ := BoxV.a3 hr_b3.out
        obtain ⟨bq0, bq1, bqF, kbq⟩ := BoxV.a2 hq_b3.out
        have ⟨nesr, ners⟩ := ne2 (show w.heap.size ≠ w.heap.size + 1 by omega)
        have ⟨nesq, neqs⟩ := ne2 (show w.heap.size ≠ b2.heap.size by omega)
        have ⟨nerq, neqr⟩ := ne2 (show w.heap.size + 1 ≠ b2.heap.size by omega)
        clear h0b3
        have hset := BoxV.set hq_b3.out [.int .i64 x1, .int .i64 x2] rfl
        simp only [setFrom, Nat.zero_add, Nat.reduceAdd] at hset
        have hzs := hide (hs_b3.out.chg hset.2 xom)
        have hzr := hide (hr_b3.out.chg hset.2 xom)
        have hzq := hide hset.1
        have ozx := hide (OwnSnV.chg ox_b3.out hset.2 xap)
        have uz := hcub3.stays hset.2 (fun b h => xom)
        have gz := hgwb3.trans (hset.2.mono (T := fun b => b = p ∨ w.heap.size ≤ b) xsub)
        have sz := hset.2.size
        clear hset
        go_wp2_with fail
        go_meet
        exact ⟨_, x1, x2, rfl, by omega, hzq.out, hmem.out, hzs.out, hzr.out, ozx.out, uz, gz, by omega⟩
      · skip
        try simp only [nrm, nrg]
        (refine wpC_call 87 ?_ rfl rfl (by rfl) ?_ ?_; rotate_left; (focus (go_simp; (try with_reducible rfl); done)))
        refine (l1Below_pos p code f.length _ (by omega) (hcuw1.stays (S := fun b => False) Chg.go (fun b h => xom))).mono ?_
        rintro en b2 ⟨y, rfl, ⟨y0, y1⟩, hcub2, hb2⟩
        refine ⟨_, rfl, (Chg.mono hb2 (fun b _ h => Or.inl h)), ?_⟩
        try simp only [nrm, nrg]
        obtain ⟨j, rfl⟩ : ∃ j : Nat, y = (j : Int) := ⟨y.toNat, by omega⟩
        have hj : j < f.length := by omega
        obtain ⟨dx, dx2⟩ := hfx j hj
        have hmem : f.getD j dr ∈ f := by rw [List.getD_eq_getElem?_getD, List.getElem?_eq_getElem hj]; exact List.getElem_mem hj
        obtain ⟨⟨x1, x2⟩, hx0⟩ : ∃ x : Rg, Hid (f.getD j dr = x) := ⟨_, hide rfl⟩
        rw [hx0.out] at dx dx2 hmem
        dsimp only at dx dx2
        replace hmem := hide hmem
        clear hx0
        have gb2 : Chg (fun b => b = p) w1 b2 := Chg.trans Chg.go (Chg.mono (T := fun b => b = p) hb2 xsub)
        have zb2 := hb2.size
        (try simp at zb2)
        have yb2 : w1.heap.size ≤ b2.heap.size := gb2.size
        obtain ⟨qo, po⟩ := gb2.row (k := bf) (by omega) xom
        replace dx := (qo _).trans dx
        replace dx2 := (qo _).trans dx2
        clear qo po
        have hs_b2 := hide (hs_w1.out.chg gb2 xom)
        have hr_b2 := hide (hr_w1.out.chg gb2 xom)
        have hq_b2 := hide (BoxV.chg (show BoxV (w1.heap.size) _ [.int .i64 0, .int .i64 0] from by have h := (BoxV.new w1.drew [.int .i64 0, .int .i64 0] 61); simpa only [World.size_alloc, World.size_drew] using h) (S := fun b => b = p) (Chg.trans Chg.go (Chg.mono (T := fun b => b = p) hb2 xsub)) xom)
        have ox_b2 := hide (OwnSnV.chg ox_w1.out gb2 xap)
        have hgwb2 : Chg (fun b => b = p ∨ w.heap.size ≤ b) w b2 := Chg.trans hgww1 (Chg.mono (T := fun b => b = p ∨ w.heap.size ≤ b) gb2 xsub)
        clear hs_w1 hr_w1 ox_w1 hgww1 hcuw1 bs0 bs1 bs2 bs3 bs4 bs5 bs6 bs7 bs8 bs9 bs10 bs11 bsF kbs br0 br1 br2 brF kbr nesr ners
        clear gb2 hb2
        obtain ⟨bs0, bs1, bs2, bs3, bs4, bs5, bs6, bs7, bs8, bs9, bs10, bs11, bsF, kbs⟩ := BoxV.a12 hs_b2.out
        obtain ⟨br0, br1, br2, brF, kbr⟩ := BoxV.a3 hr_b2.out
        obtain ⟨bq0, bq1, bqF, kbq⟩ := BoxV.a2 hq_b2.out
        have ⟨nesr, ners⟩ := ne2 (show w.heap.size ≠ w.heap.size + 1 by omega)
        have ⟨nesq, neqs⟩ := ne2 (show w.heap.size ≠ w1.heap.size by omega)
        have ⟨nerq, neqr⟩ := ne2 (show w.heap.size + 1 ≠ w1.heap.size by omega)
        (refine wpC_pure (v := ?_) rfl rfl (by rfl) ?_ ?_; rotate_left; (focus (intro ws hws; go_simp; (try with_reducible rfl); done)))
        try simp only [nrm, nrg]
        (refine wpC_pure (v := ?_) rfl rfl (by rfl) ?_ ?_; rotate_left; (focus (intro ws hws; obtain ⟨q0, p0⟩ := hws.row (k := bf) xpf xom; go_simp; (try with_reducible rfl); done)))
        try simp only [nrm, nrg]
        refine wpF_done rfl ?_
        simp only [List.drop_succ_cons, List.drop_zero, List.drop_nil]
        have hset := BoxV.set hq_b2.out [.int .i64 x1, .int .i64 x2] rfl
        simp only [setFrom, Nat.zero_add, Nat.reduceAdd] at hset
        have hzs := hide (hs_b2.out.chg hset.2 xom)
        have hzr := hide (hr_b2.out.chg hset.2 xom)
        have hzq := hide hset.1
        have ozx := hide (OwnSnV.chg ox_b2.out hset.2 xap)
        have uz := hcub2.stays hset.2 (fun b h => xom)
        have gz := hgwb2.trans (hset.2.mono (T := fun b => b = p ∨ w.heap.size ≤ b) xsub)
        have sz := hset.2.size
        clear hset
        go_wp2_with fail
        go_meet
        exact ⟨_, x1, x2, rfl, by omega, hzq.out, hmem.out, hzs.out, hzr.out, ozx.out, uz, gz, by omega⟩
    case rest =>
      obtain ⟨wx, hwe⟩ : ∃ u, u = wc := ⟨_, rfl⟩
      subst hwe
      obtain ⟨B, x1, x2, rfl, hBw, hBq, hmem, hBs, hBr, hown, hcux, hgwx, hsz⟩ := hcut
      clear bs0 bs1 bs2 bs3 bs4 bs5 bs6 bs7 bs8 bs9 bs10 bs11 bsF kbs br0 br1 br2 brF kbr nesr ners hs_w1 hr_w1 ox_w1 hcuw1 hgww1
      replace hBq := hide hBq
      replace hBs := hide hBs
      replace hBr := hide hBr
      replace hown := hide hown
      obtain ⟨bs0, bs1, bs2, bs3, bs4, bs5, bs6, bs7, bs8, bs9, bs10, bs11, bsF, kbs⟩ := BoxV.a12 hBs.out
      obtain ⟨br0, br1, br2, brF, kbr⟩ := BoxV.a3 hBr.out
      obtain ⟨bq0, bq1, bqF, kbq⟩ := BoxV.a2 hBq.out
      have ⟨nesr, ners⟩ := ne2 (show w.heap.size ≠ w.heap.size + 1 by omega)
      have ⟨nesq, neqs⟩ := ne2 (show w.heap.size ≠ B by omega)
      have ⟨nerq, neqr⟩ := ne2 (show w.heap.size + 1 ≠ B by omega)
      have hxt := hrf.out.2 _ hmem
      have hx1 := rgs_mem hrf.out.1 hmem
      dsimp only at hxt hx1
      have hxw : IntKind.i64.wrap (x2 - x1) = x2 - x1 := IntWalk.i64_in _ (by omega)
      clear hmem
      go_wp2_with fail
      refine (pk_spec ⟨z, b, e, xs⟩ x1 (x2 - x1) ar c1 _ (OwnSnV.read (OwnSnV.chg (S := fun b => b = p) hown.out Chg.go xap)).r (by (try dsimp only); omega) (by (try dsimp only); omega)).mono ?_
      rintro en d2 ⟨rfl, hd2⟩
      have hdz := pkS_size ⟨z, b, e, xs⟩ x1 (x2 - x1) 1000 (by omega) (by omega)
      generalize pkS ⟨z, b, e, xs⟩ x1 (x2 - x1) = dd at *
      generalize pkOk ⟨z, b, e, xs⟩ x1 (x2 - x1) = dk at *
      have gd2 : Chg (fun b => False) wx d2 := Chg.trans Chg.go (Ext.chg hd2 _)
      have zd2 := hd2.size
      (try simp at zd2)
      have yd2 : wx.heap.size ≤ d2.heap.size := gd2.size
      have hs_d2 := hide (hBs.out.chg gd2 xom)
      have hr_d2 := hide (hBr.out.chg gd2 xom)
      have hq_d2 := hide (hBq.out.chg gd2 xom)
      have ox_d2 := hide (OwnSnV.chg hown.out gd2 xap)
      have hgwd2 : Chg (fun b => b = p ∨ w.heap.size ≤ b) w d2 := Chg.trans hgwx (Chg.mono (T := fun b => b = p ∨ w.heap.size ≤ b) gd2 xsub)
      have hcud2 := hcux.stays gd2 (fun b h => xom)
      clear hBs hBr hBq hown hgwx hcux bs0 bs1 bs2 bs3 bs4 bs5 bs6 bs7 bs8 bs9 bs10 bs11 bsF kbs br0 br1 br2 brF kbr bq0 bq1 bqF kbq nesr ners nesq neqs nerq neqr
      clear gd2 hd2
      obtain ⟨bs0, bs1, bs2, bs3, bs4, bs5, bs6, bs7, bs8, bs9, bs10, bs11, bsF, kbs⟩ := BoxV.a12 hs_d2.out
      obtain ⟨br0, br1, br2, brF, kbr⟩ := BoxV.a3 hr_d2.out
      obtain ⟨bq0, bq1, bqF, kbq⟩ := BoxV.a2 hq_d2.out
      have ⟨nesr, ners⟩ := ne2 (show w.heap.size ≠ w.heap.size + 1 by omega)
      have ⟨nesq, neqs⟩ := ne2 (show w.heap.size ≠ B by omega)
      have ⟨nerq, neqr⟩ := ne2 (show w.heap.size + 1 ≠ B by omega)
      by_cases h2 : fk = 2 ∧ x2 = fi
      · skip
        have h2e : (fk == 2) = true := by simp [h2.1]
        have h3e : (x2 == fi) = true := by simp [h2.2]
        clear h2
        go_wp2_with fail
        refine wp_region_flowC (fun b => b = p) 17 [(0, 1), (1, 1), (2, 1), (3, 1), (4, 1), (5, 1), (6, 1), (7, 1), (8, 1), (9, 1), (10, 1), (11, 1), (12, 1), (13, 1), (14, 1), (15, 0), (16, 1)] (by kernel_rfl) (by kernel_rfl) ?_
        (refine wpC_pure (v := ?_) rfl rfl (by rfl) ?_ ?_; rotate_left; (focus (intro ws hws; go_simp; (try with_reducible rfl); done)))
        try simp only [nrm, nrg]
        (refine wpC_pure (v := ?_) rfl rfl (by rfl) ?_ ?_; rotate_left; (focus (intro ws hws; obtain ⟨q0, p0⟩ := hws.row (k := B) xpf xom; go_simp; (try with_reducible rfl); done)))
        try simp only [nrm, nrg]
        iterate 2 ((refine wpC_pure (v := ?_) rfl rfl (by rfl) ?_ ?_; rotate_left; (focus (intro ws hws; go_simp; (try with_reducible rfl); done))); try simp only [nrm, nrg])
        (refine wpC_pure (v := ?_) rfl rfl (by rfl) ?_ ?_; rotate_left; (focus (intro ws hws; obtain ⟨q0, p0⟩ := hws.row (k := w.heap.size) xpf xom; go_simp; (try with_reducible rfl); done)))
        try simp only [nrm, nrg]
        iterate 3 ((refine wpC_pure (v := ?_) rfl rfl (by rfl) ?_ ?_; rotate_left; (focus (intro ws hws; go_simp; (try with_reducible rfl); done))); try simp only [nrm, nrg])
        (refine wpC_pure (v := ?_) rfl rfl (by rfl) ?_ ?_; rotate_left; (focus (intro ws hws; obtain ⟨q0, p0⟩ := hws.row (k := B) xpf xom; go_simp; (try with_reducible rfl); done)))
        try simp only [nrm, nrg]
        (refine wpC_pure (v := ?_) rfl rfl (by rfl) ?_ ?_; rotate_left; (focus (intro ws hws; go_simp; (try with_reducible rfl); done)))
        try simp only [nrm, nrg]
        (refine wpC_pure (v := ?_) rfl rfl (by rfl) ?_ ?_; rotate_left; (focus (intro ws hws; obtain ⟨q0, p0⟩ := hws.row (k := w.heap.size) xpf xom; go_simp; (try with_reducible rfl); done)))
        try simp only [nrm, nrg]
        iterate 4 ((refine wpC_pure (v := ?_) rfl rfl (by rfl) ?_ ?_; rotate_left; (focus (intro ws hws; go_simp; (try with_reducible rfl); done))); try simp only [nrm, nrg])
        (refine wpC_call 92 ?_ rfl rfl (by rfl) ?_ ?_; rotate_left; (focus (go_simp; (try with_reducible rfl); done)))
        refine (l1Once_any p code 2 _ (hcud2.stays (S := fun b => False) Chg.go (fun b h => xom))).mono ?_
        rintro en d3 ⟨q, rfl, hcud3, hd3⟩
        refine ⟨_, rfl, hd3, ?_⟩
        try simp only [nrm, nrg]
        have gd3 : Chg (fun b => b = p) d2 d3 := Chg.trans Chg.go (Chg.mono (T := fun b => b = p) hd3 xsub)
        have zd3 := hd3.size
        (try simp at zd3)
        have yd3 : d2.heap.size ≤ d3.heap.size := gd3.size
        have hs_d3 := hide (hs_d2.out.chg gd3 xom)
        have hr_d3 := hide (hr_d2.out.chg gd3 xom)
        have hq_d3 := hide (hq_d2.out.chg gd3 xom)
        have ox_d3 := hide (OwnSnV.chg ox_d2.out gd3 xap)
        have hgwd3 : Chg (fun b => b = p ∨ w.heap.size ≤ b) w d3 := Chg.trans hgwd2 (Chg.mono (T := fun b => b = p ∨ w.heap.size ≤ b) gd3 xsub)
        clear hs_d2 hr_d2 hq_d2 ox_d2 hgwd2 hcud2 bs0 bs1 bs2 bs3 bs4 bs5 bs6 bs7 bs8 bs9 bs10 bs11 bsF kbs br0 br1 br2 brF kbr bq0 bq1 bqF kbq nesr ners nesq neqs nerq neqr
        clear gd3 hd3
        obtain ⟨bs0, bs1, bs2, bs3, bs4, bs5, bs6, bs7, bs8, bs9, bs10, bs11, bsF, kbs⟩ := BoxV.a12 hs_d3.out
        obtain ⟨br0, br1, br2, brF, kbr⟩ := BoxV.a3 hr_d3.out
        obtain ⟨bq0, bq1, bqF, kbq⟩ := BoxV.a2 hq_d3.out
        have ⟨nesr, ners⟩ := ne2 (show w.heap.size ≠ w.heap.size + 1 by omega)
        have ⟨nesq, neqs⟩ := ne2 (show w.heap.size ≠ B by omega)
        have ⟨nerq, neqr⟩ := ne2 (show w.heap.size + 1 ≠ B by omega)
        (refine wpC_pure (v := ?_) rfl rfl (by rfl) ?_ ?_; rotate_left; (focus (intro ws hws; go_simp; (try with_reducible rfl); done)))
        try simp only [nrm, nrg]
        refine wpF_done rfl ?_
        simp only [List.drop_succ_cons, List.drop_zero, List.drop_nil]
        go_wp2
        refine bodyPost_ret (v := .agg #[.int .i64 x1, .string dd, .bool q]) (by simp [results, Try.results133, go_sem, *]) rfl ⟨x1, dd, q, rfl, ⟨by omega, by omega⟩, hdz, (hcud3.stays (S := fun b => b = w.heap.size + 1) Chg.go (fun b h => xom)), ?_⟩
        · exact Chg.mono (Chg.trans hgwd3 (Chg.mono (S := fun b => b = p ∨ b = w.heap.size + 1) (T := fun b => b = p ∨ w.heap.size ≤ b) Chg.go xsub)) (fun b h1 h2 => by (try dsimp only at h2 ⊢); omega)
      · skip
        by_cases h3 : fk = 2
        · skip
          have h2e : (fk == 2) = true := by simp [h3]
          have h3e : (x2 == fi) = false := by simp; exact fun h => h2 ⟨h3, h⟩
          clear h2 h3
          go_wp2_with fail
          refine wp_region_flowC (fun b => b = p) 17 [(0, 1), (1, 1), (2, 1), (3, 1), (4, 1), (5, 1), (6, 1), (7, 1), (8, 1), (9, 1), (10, 1), (11, 1), (12, 1), (13, 1), (14, 1), (15, 0), (16, 1)] (by kernel_rfl) (by kernel_rfl) ?_
          (refine wpC_pure (v := ?_) rfl rfl (by rfl) ?_ ?_; rotate_left; (focus (intro ws hws; go_simp; (try with_reducible rfl); done)))
          try simp only [nrm, nrg]
          (refine wpC_pure (v := ?_) rfl rfl (by rfl) ?_ ?_; rotate_left; (focus (intro ws hws; obtain ⟨q0, p0⟩ := hws.row (k := B) xpf xom; go_simp; (try with_reducible rfl); done)))
          try simp only [nrm, nrg]
          iterate 2 ((refine wpC_pure (v := ?_) rfl rfl (by rfl) ?_ ?_; rotate_left; (focus (intro ws hws; go_simp; (try with_reducible rfl); done))); try simp only [nrm, nrg])
          (refine wpC_pure (v := ?_) rfl rfl (by rfl) ?_ ?_; rotate_left; (focus (intro ws hws; obtain ⟨q0, p0⟩ := hws.row (k := w.heap.size) xpf xom; go_simp; (try with_reducible rfl); done)))
          try simp only [nrm, nrg]
          iterate 3 ((refine wpC_pure (v := ?_) rfl rfl (by rfl) ?_ ?_; rotate_left; (focus (intro ws hws; go_simp; (try with_reducible rfl); done))); try simp only [nrm, nrg])
          (refine wpC_pure (v := ?_) rfl rfl (by rfl) ?_ ?_; rotate_left; (focus (intro ws hws; obtain ⟨q0, p0⟩ := hws.row (k := B) xpf xom; go_simp; (try with_reducible rfl); done)))
          try simp only [nrm, nrg]
          (refine wpC_pure (v := ?_) rfl rfl (by rfl) ?_ ?_; rotate_left; (focus (intro ws hws; go_simp; (try with_reducible rfl); done)))
          try simp only [nrm, nrg]
          (refine wpC_pure (v := ?_) rfl rfl (by rfl) ?_ ?_; rotate_left; (focus (intro ws hws; obtain ⟨q0, p0⟩ := hws.row (k := w.heap.size) xpf xom; go_simp; (try with_reducible rfl); done)))
          try simp only [nrm, nrg]
          iterate 3 ((refine wpC_pure (v := ?_) rfl rfl (by rfl) ?_ ?_; rotate_left; (focus (intro ws hws; go_simp; (try with_reducible rfl); done))); try simp only [nrm, nrg])
          refine wpC_off rfl rfl (by rfl) ?_
          try simp only [nrm, nrg]
          refine wpC_offS rfl rfl (by rfl) ?_
          try simp only [nrm, nrg]
          (refine wpC_pure (v := ?_) rfl rfl (by rfl) ?_ ?_; rotate_left; (focus (intro ws hws; go_simp; (try with_reducible rfl); done)))
          try simp only [nrm, nrg]
          refine wpF_done rfl ?_
          simp only [List.drop_succ_cons, List.drop_zero, List.drop_nil]
          go_wp2
          refine bodyPost_ret (v := .agg #[.int .i64 x1, .string dd, .bool false]) (by simp [results, Try.results133, go_sem, *]) rfl ⟨x1, dd, false, rfl, ⟨by omega, by omega⟩, hdz, (hcud2.stays (S := fun b => b = w.heap.size + 1) Chg.go (fun b h => xom)), ?_⟩
          · exact Chg.mono (Chg.trans hgwd2 (Chg.mono (S := fun b => b = p ∨ b = w.heap.size + 1) (T := fun b => b = p ∨ w.heap.size ≤ b) Chg.go xsub)) (fun b h1 h2 => by (try dsimp only at h2 ⊢); omega)
        · skip
          have h2e : (fk == 2) = false := by simp [h3]
          clear h2 h3
          go_wp2_with fail
          refine wp_region_flowC (fun b => b = p) 17 [(0, 1), (1, 1), (2, 1), (3, 1), (4, 1), (5, 1), (6, 1), (7, 1), (8, 1), (9, 1), (10, 1), (11, 1), (12, 1), (13, 1), (14, 1), (15, 0), (16, 1)] (by kernel_rfl) (by kernel_rfl) ?_
          (refine wpC_pure (v := ?_) rfl rfl (by rfl) ?_ ?_; rotate_left; (focus (intro ws hws; go_simp; (try with_reducible rfl); done)))
          try simp only [nrm, nrg]
          (refine wpC_pure (v := ?_) rfl rfl (by rfl) ?_ ?_; rotate_left; (focus (intro ws hws; obtain ⟨q0, p0⟩ := hws.row (k := B) xpf xom; go_simp; (try with_reducible rfl); done)))
          try simp only [nrm, nrg]
          iterate 2 ((refine wpC_pure (v := ?_) rfl rfl (by rfl) ?_ ?_; rotate_left; (focus (intro ws hws; go_simp; (try with_reducible rfl); done))); try simp only [nrm, nrg])
          (refine wpC_pure (v := ?_) rfl rfl (by rfl) ?_ ?_; rotate_left; (focus (intro ws hws; obtain ⟨q0, p0⟩ := hws.row (k := w.heap.size) xpf xom; go_simp; (try with_reducible rfl); done)))
          try simp only [nrm, nrg]
          iterate 2 ((refine wpC_pure (v := ?_) rfl rfl (by rfl) ?_ ?_; rotate_left; (focus (intro ws hws; go_simp; (try with_reducible rfl); done))); try simp only [nrm, nrg])
          refine wpC_off rfl rfl (by rfl) ?_
          try simp only [nrm, nrg]
          refine wpC_off rfl rfl (by rfl) ?_
          try simp only [nrm, nrg]
          refine wpC_off rfl rfl (by rfl) ?_
          try simp only [nrm, nrg]
          refine wpC_off rfl rfl (by rfl) ?_
          try simp only [nrm, nrg]
          refine wpC_off rfl rfl (by rfl) ?_
          try simp only [nrm, nrg]
          iterate 2 ((refine wpC_pure (v := ?_) rfl rfl (by rfl) ?_ ?_; rotate_left; (focus (intro ws hws; go_simp; (try with_reducible rfl); done))); try simp only [nrm, nrg])
          refine wpC_off rfl rfl (by rfl) ?_
          try simp only [nrm, nrg]
          refine wpC_offS rfl rfl (by rfl) ?_
          try simp only [nrm, nrg]
          (refine wpC_pure (v := ?_) rfl rfl (by rfl) ?_ ?_; rotate_left; (focus (intro ws hws; go_simp; (try with_reducible rfl); done)))
          try simp only [nrm, nrg]
          refine wpF_done rfl ?_
          simp only [List.drop_succ_cons, List.drop_zero, List.drop_nil]
          go_wp2
          refine bodyPost_ret (v := .agg #[.int .i64 x1, .string dd, .bool false]) (by simp [results, Try.results133, go_sem, *]) rfl ⟨x1, dd, false, rfl, ⟨by omega, by omega⟩, hdz, (hcud2.stays (S := fun b => b = w.heap.size + 1) Chg.go (fun b h => xom)), ?_⟩
          · exact Chg.mono (Chg.trans hgwd2 (Chg.mono (S := fun b => b = p ∨ b = w.heap.size + 1) (T := fun b => b = p ∨ w.heap.size ≤ b) Chg.go xsub)) (fun b h1 h2 => by (try dsimp only at h2 ⊢); omega)
end
end Go.Proofs.Ytjhgcbchdnoleaa
