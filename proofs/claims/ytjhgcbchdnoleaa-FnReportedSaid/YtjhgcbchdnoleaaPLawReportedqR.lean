/-
  The law FnReported holds of every code. No condition.
-/
import Derived.Deep.DeepCutAuto
import Derived.Test.YtjhgcbchdnoleaaPSnZPqR
import Derived.Test.YtjhgcbchdnoleaaPSndEq
import Derived.Test.YtjhgcbchdnoleaaPSnLIqR
import Derived.Test.YtjhgcbchdnoleaaPSnKIqR
namespace Go.Proofs.Ytjhgcbchdnoleaa
section
open Go.ChangeShapes Go.WideShapes Go.ChangeAt Go.RowKit
set_option linter.unusedSimpArgs false
set_option linter.unusedVariables false
/-- What a step leaves is small. -/
structure SnSm (s : Sn) : Prop where
  x : s.xs.length ≤ 1000
  p : s.p.length ≤ 3000
  f : s.f.length ≤ 3000
  k : s.k.length ≤ 3000
  e : -1 ≤ s.e ∧ s.e ≤ 1000
theorem SnAny.sm {s : Sn} (h : SnAny s) : SnSm s := ⟨by have := h.len; omega, by have := h.p; omega, by have := h.f; omega, by have := h.k; omega, by have := h.e; omega⟩
theorem sndEq_refl (s : Sn) : sndEq s.st s.z s.b s.e s.fi s.fk s.se s.co s.st s.z s.b s.e s.fi s.fk s.se s.co ⟨s.xs, s.p, s.f, s.k⟩ ⟨s.xs, s.p, s.f, s.k⟩ = true := by
  simp [sndEq, ringEq]
/-- Two readings of one sender are equal. -/
theorem eqs_same (s : Sn) (a g : Ads) (c1 c2 c3 c4 k1 k2 k3 k4 : Nat) (w : World) (hx : ReadSnd w a ⟨s.xs, s.p, s.f, s.k⟩) (hy : ReadSnd w g ⟨s.xs, s.p, s.f, s.k⟩) (h : SnSm s) :
    Calls Try.prog 18 #[.agg #[.int .i64 s.st, .int .i64 s.z, .int .i64 s.b, .int .i64 s.e, .slice a.r s.xs.length c1, .slice a.p s.p.length c2, .slice a.f s.f.length c3, .slice a.k s.k.length c4, .int .i64 s.fi, .int .i64 s.fk, .int .i64 s.se, .int .i64 s.co], .agg #[.int .i64 s.st, .int .i64 s.z, .int .i64 s.b, .int .i64 s.e, .slice g.r s.xs.length k1, .slice g.p s.p.length k2, .slice g.f s.f.length k3, .slice g.k s.k.length k4, .int .i64 s.fi, .int .i64 s.fk, .int .i64 s.se, .int .i64 s.co]] w fun en w' => en = .returned (.bool true) ∧ Ext w w' := by
  obtain ⟨ar, ap, af, ak⟩ := a
  obtain ⟨gr, gp, gf, gk⟩ := g
  have := EqualSenders_spec s.st s.z s.b s.e s.fi s.fk s.se s.co s.st s.z s.b s.e s.fi s.fk s.se s.co ar ap af ak c1 c2 c3 c4 gr gp gf gk k1 k2 k3 k4 s.xs s.p s.f s.k s.xs s.p s.f s.k w hx hy (by have := h.x; have := h.p; have := h.f; have := h.k; omega)
  rw [sndEq_refl] at this
  exact this
theorem inRb_succ {l : List Rg} {m : Int} {k : Nat} (hk : k < l.length) : inRb (l.take (k + 1)) m = (inRb (l.take k) m || (decide ((l.getD k dr).1 ≤ m) && decide (m < (l.getD k dr).2))) := by
  rw [takeR_succ l hk]
  simp [inRb]
set_option maxHeartbeats 2000000 in
theorem span_any (m : Int) (ao : Option Addr) (n ca : Nat) (rs : List Rg) (w : World) (hx : ReadR w ao rs) (hn : rs.length = n) (hl : n ≤ 1048576) :
    Calls Try.prog 42 #[.slice ao n ca, .int .i64 m] w fun en w' => en = .returned (.bool (inRb rs m)) ∧ Ext w w' := by
  have hn' := hide hn
  have hx' := hide hx
  clear hn hx
  go_enter Try.func42, Try.ntmps42
  go_wp2_with fail
  go_loopw [5] (fun i wr => ∃ k : Nat, i = .int .i64 k ∧ k ≤ n ∧ Hid (inRb (rs.take k) m = false) ∧ Ext w wr) (fun i _ => n - (intOf i).toNat)
  case atStart => exact ⟨0, rfl, Nat.zero_le _, hide (by simp [inRb]), Ext.refl _⟩
  case round =>
    obtain ⟨k, rfl, hk, hno, hwr⟩ := hrel
    by_cases hlt : k < n
    · rcases hx'.out with hnil | ⟨b, off, rfl, hx⟩
      · have := hn'.out; rw [hnil] at this; simp at this; omega
      have hkr : k < rs.length := by rw [hn'.out]; exact hlt
      obtain ⟨cx, cx2⟩ := hx k hkr
      have la := World.block_lt_of_cell? w _ cx
      have dx := ((hwr.row la).1 _).trans cx
      have dx2 := ((hwr.row la).1 _).trans cx2
      have hs := inRb_succ (m := m) hkr
      obtain ⟨⟨x1, x2⟩, hx0⟩ : ∃ x : Rg, Hid (rs.getD k dr = x) := ⟨_, hide rfl⟩
      rw [hx0.out] at dx dx2 hs
      rw [hno.out] at hs
      dsimp only at dx dx2 hs
      replace hs := hide hs
      have i1 : (0 : Int) ≤ (k : Int) := by omega
      have i2 : (k : Int) < (n : Int) := by omega
      have lw := hwr.more la
      clear hx cx cx2 hx0 hno hkr
      by_cases c1 : x1 ≤ m
      · have c1e : decide (x1 ≤ m) = true := decide_eq_true c1
        by_cases c2 : m < x2
        · have c2e : decide (m < x2) = true := decide_eq_true c2
          have hy : inRb rs m = true := by
            have h2 : inRb (rs.take (k + 1)) m = true := by rw [hs.out, c1e, c2e]; rfl
            rw [inRb_iff] at h2
            obtain ⟨r, hr, h⟩ := h2
            exact (inRb_iff _ _).2 ⟨r, List.mem_of_mem_take hr, h⟩
          replace hy := hide hy
          go_wp2
          go_ret
          exact ⟨by rw [hy.out]; rfl, hwr⟩
        · have c2e : decide (m < x2) = false := decide_eq_false c2
          go_wp2
          go_roundw
          case rel => exact ⟨k + 1, by go_num, by omega, hide (by rw [hs.out, c2e]; simp), hwr⟩
          case measure => simp [intOf]; omega
      · have c1e : decide (x1 ≤ m) = false := decide_eq_false c1
        go_wp2
        go_roundw
        case rel => exact ⟨k + 1, by go_num, by omega, hide (by rw [hs.out, c1e]; rfl), hwr⟩
        case measure => simp [intOf]; omega
    · obtain rfl : k = n := by omega
      have hy : inRb rs m = false := by
        have := hno.out
        rw [← hn'.out, List.take_length] at this
        exact this
      replace hy := hide hy
      go_wp2
      go_ret
      exact ⟨by rw [hy.out]; rfl, hwr⟩
set_option maxHeartbeats 4000000 in
set_option maxRecDepth 100000 in
theorem LosePiece_impl (s : Sn) (a : Ads) (c1 c2 c3 c4 : Nat) (o : Int) (d : ByteArray) (fin : Bool) (w : World) (hx : ReadSnd w a ⟨s.xs, s.p, s.f, s.k⟩) (hl : s.xs.length ≤ 1048576) (hsum : s.p.length + s.f.length + s.k.length ≤ 1048576) (ho : -1000000 ≤ o ∧ o ≤ 1000000) (hds : (d.size : Int) ≤ 1000000) (he : -1 ≤ s.e ∧ s.e ≤ 1000) (hV : actV (sndI s) s = true → Vld s) :
    Calls Try.prog 39 #[.agg #[.int .i64 s.st, .int .i64 s.z, .int .i64 s.b, .int .i64 s.e, .slice a.r s.xs.length c1, .slice a.p s.p.length c2, .slice a.f s.f.length c3, .slice a.k s.k.length c4, .int .i64 s.fi, .int .i64 s.fk, .int .i64 s.se, .int .i64 s.co], .agg #[.int .i64 o, .string d, .bool fin]] w (NewSn (loX (sndI s) s o d fin) w) := by
  replace hV := hide hV
  replace hx := hide hx
  skip
  go_enter Try.func39, Try.ntmps39
  have hgw0 : Chg (fun b => w.heap.size ≤ b) w w := Chg.refl _ _
  go_wp2_with fail
  refine (settleLose_impl s a c1 c2 c3 c4 o d fin _ (hx.out.ext (Chg.ext (S := fun b => w.heap.size ≤ b) (Chg.trans hgw0 (Chg.mono (S := fun b => False) (T := fun b => w.heap.size ≤ b) Chg.go xsub)) (fun b h1 h2 => by (try dsimp only at h2); omega))) hl hsum ho hds he hV.out).mono ?_
  rintro en w1 ⟨g1, g2, g3, g4, k1, k2, k3, k4, rfl, owng, hw1⟩
  obtain ⟨t, ht⟩ : ∃ t, Hid (loX (sndI s) s o d fin = t) := ⟨_, hide rfl⟩
  rw [ht.out] at owng ⊢
  have gw1 : Chg (fun b => False) w w1 := Chg.trans Chg.go (Ext.chg hw1 _)
  have zw1 := hw1.size
  (try simp at zw1)
  have yw1 : w.heap.size ≤ w1.heap.size := gw1.size
  have hs_w1 := hide (BoxV.chg (BoxV.new w [.int .i64 s.st, .int .i64 s.z, .int .i64 s.b, .int .i64 s.e, .slice a.r s.xs.length c1, .slice a.p s.p.length c2, .slice a.f s.f.length c3, .slice a.k s.k.length c4, .int .i64 s.fi, .int .i64 s.fk, .int .i64 s.se, .int .i64 s.co] 32) (S := fun b => False) (Chg.trans Chg.go (Ext.chg hw1 _)) xom)
  have hp_w1 := hide (BoxV.chg (show BoxV (w.heap.size + 1) _ [.int .i64 o, .string d, .bool fin] from by have h := (BoxV.new (w.alloc (.cells #[.int .i64 s.st, .int .i64 s.z, .int .i64 s.b, .int .i64 s.e, .slice a.r s.xs.length c1, .slice a.p s.p.length c2, .slice a.f s.f.length c3, .slice a.k s.k.length c4, .int .i64 s.fi, .int .i64 s.fk, .int .i64 s.se, .int .i64 s.co] 32)) [.int .i64 o, .string d, .bool fin] 55); simpa only [World.size_alloc, World.size_drew] using h) (S := fun b => False) (Chg.trans Chg.go (Ext.chg hw1 _)) xom)
  have hr_w1 := hide (BoxV.chg (show BoxV (w.heap.size + 1 + 1) _ [.int .i64 0, .int .i64 0, .int .i64 0, .int .i64 0, .slice none 0 0, .slice none 0 0, .slice none 0 0, .slice none 0 0, .int .i64 0, .int .i64 0, .int .i64 0, .int .i64 0] from by have h := (BoxV.new ((w.alloc (.cells #[.int .i64 s.st, .int .i64 s.z, .int .i64 s.b, .int .i64 s.e, .slice a.r s.xs.length c1, .slice a.p s.p.length c2, .slice a.f s.f.length c3, .slice a.k s.k.length c4, .int .i64 s.fi, .int .i64 s.fk, .int .i64 s.se, .int .i64 s.co] 32)).alloc (.cells #[.int .i64 o, .string d, .bool fin] 55)) [.int .i64 0, .int .i64 0, .int .i64 0, .int .i64 0, .slice none 0 0, .slice none 0 0, .slice none 0 0, .slice none 0 0, .int .i64 0, .int .i64 0, .int .i64 0, .int .i64 0] 32); simpa only [World.size_alloc, World.size_drew] using h) (S := fun b => False) (Chg.trans Chg.go (Ext.chg hw1 _)) xom)
  have hgww1 : Chg (fun b => w.heap.size ≤ b) w w1 := Chg.trans hgw0 (Chg.mono (T := fun b => w.heap.size ≤ b) gw1 xsub)
  clear hgw0
  clear gw1 hw1
  obtain ⟨bs0, bs1, bs2, bs3, bs4, bs5, bs6, bs7, bs8, bs9, bs10, bs11, bsF, kbs⟩ := BoxV.a12 hs_w1.out
  obtain ⟨bp0, bp1, bp2, bpF, kbp⟩ := BoxV.a3 hp_w1.out
  obtain ⟨br0, br1, br2, br3, br4, br5, br6, br7, br8, br9, br10, br11, brF, kbr⟩ := BoxV.a12 hr_w1.out
  have ⟨nesp, neps⟩ := ne2 (show w.heap.size ≠ w.heap.size + 1 by omega)
  have ⟨nesr, ners⟩ := ne2 (show w.heap.size ≠ w.heap.size + 1 + 1 by omega)
  have ⟨nepr, nerp⟩ := ne2 (show w.heap.size + 1 ≠ w.heap.size + 1 + 1 by omega)
  (try simp only [World.size_alloc, World.size_drew, World.size_setCell] at owng)
  replace owng := hide owng
  go_wp2
  rw [ht.out]
  refine bodyPost_ret (v := .agg #[.int .i64 t.st, .int .i64 t.z, .int .i64 t.b, .int .i64 t.e, .slice g1 t.xs.length k1, .slice g2 t.p.length k2, .slice g3 t.f.length k3, .slice g4 t.k.length k4, .int .i64 t.fi, .int .i64 t.fk, .int .i64 t.se, .int .i64 t.co]) (by simp [results, Try.results39, go_sem, *]) rfl ⟨g1, g2, g3, g4, k1, k2, k3, k4, rfl, ?_, ?_⟩
  · exact OwnSnV.mono (OwnSnV.chg (S := fun b => b = w.heap.size + 1 + 1) owng.out Chg.go xap) xpf xpf
  · exact (Chg.ext (S := fun b => w.heap.size ≤ b) (Chg.trans hgww1 (Chg.mono (S := fun b => b = w.heap.size + 1 + 1) (T := fun b => w.heap.size ≤ b) Chg.go xsub)) (fun b h1 h2 => by (try dsimp only at h2); omega))
set_option maxHeartbeats 4000000 in
set_option maxRecDepth 100000 in
theorem AckPiece_impl (s : Sn) (a : Ads) (c1 c2 c3 c4 : Nat) (o : Int) (d : ByteArray) (fin : Bool) (w : World) (hx : ReadSnd w a ⟨s.xs, s.p, s.f, s.k⟩) (hl : s.xs.length ≤ 1048576) (hsum : s.p.length + s.f.length + s.k.length ≤ 1048576) (ho : -1000000 ≤ o ∧ o ≤ 1000000) (hds : (d.size : Int) ≤ 1000000) (he : -1 ≤ s.e ∧ s.e ≤ 1000) (hV : actV (sndI s) s = true → Vld s) :
    Calls Try.prog 37 #[.agg #[.int .i64 s.st, .int .i64 s.z, .int .i64 s.b, .int .i64 s.e, .slice a.r s.xs.length c1, .slice a.p s.p.length c2, .slice a.f s.f.length c3, .slice a.k s.k.length c4, .int .i64 s.fi, .int .i64 s.fk, .int .i64 s.se, .int .i64 s.co], .agg #[.int .i64 o, .string d, .bool fin]] w (NewSn (akX (sndI s) s o d fin) w) := by
  replace hV := hide hV
  replace hx := hide hx
  skip
  go_enter Try.func37, Try.ntmps37
  have hgw0 : Chg (fun b => w.heap.size ≤ b) w w := Chg.refl _ _
  go_wp2_with fail
  refine (settleAck_impl s a c1 c2 c3 c4 o d fin _ (hx.out.ext (Chg.ext (S := fun b => w.heap.size ≤ b) (Chg.trans hgw0 (Chg.mono (S := fun b => False) (T := fun b => w.heap.size ≤ b) Chg.go xsub)) (fun b h1 h2 => by (try dsimp only at h2); omega))) hl hsum ho hds he hV.out).mono ?_
  rintro en w1 ⟨g1, g2, g3, g4, k1, k2, k3, k4, rfl, owng, hw1⟩
  obtain ⟨t, ht⟩ : ∃ t, Hid (akX (sndI s) s o d fin = t) := ⟨_, hide rfl⟩
  rw [ht.out] at owng ⊢
  have gw1 : Chg (fun b => False) w w1 := Chg.trans Chg.go (Ext.chg hw1 _)
  have zw1 := hw1.size
  (try simp at zw1)
  have yw1 : w.heap.size ≤ w1.heap.size := gw1.size
  have hs_w1 := hide (BoxV.chg (BoxV.new w [.int .i64 s.st, .int .i64 s.z, .int .i64 s.b, .int .i64 s.e, .slice a.r s.xs.length c1, .slice a.p s.p.length c2, .slice a.f s.f.length c3, .slice a.k s.k.length c4, .int .i64 s.fi, .int .i64 s.fk, .int .i64 s.se, .int .i64 s.co] 32) (S := fun b => False) (Chg.trans Chg.go (Ext.chg hw1 _)) xom)
  have hp_w1 := hide (BoxV.chg (show BoxV (w.heap.size + 1) _ [.int .i64 o, .string d, .bool fin] from by have h := (BoxV.new (w.alloc (.cells #[.int .i64 s.st, .int .i64 s.z, .int .i64 s.b, .int .i64 s.e, .slice a.r s.xs.length c1, .slice a.p s.p.length c2, .slice a.f s.f.length c3, .slice a.k s.k.length c4, .int .i64 s.fi, .int .i64 s.fk, .int .i64 s.se, .int .i64 s.co] 32)) [.int .i64 o, .string d, .bool fin] 55); simpa only [World.size_alloc, World.size_drew] using h) (S := fun b => False) (Chg.trans Chg.go (Ext.chg hw1 _)) xom)
  have hr_w1 := hide (BoxV.chg (show BoxV (w.heap.size + 1 + 1) _ [.int .i64 0, .int .i64 0, .int .i64 0, .int .i64 0, .slice none 0 0, .slice none 0 0, .slice none 0 0, .slice none 0 0, .int .i64 0, .int .i64 0, .int .i64 0, .int .i64 0] from by have h := (BoxV.new ((w.alloc (.cells #[.int .i64 s.st, .int .i64 s.z, .int .i64 s.b, .int .i64 s.e, .slice a.r s.xs.length c1, .slice a.p s.p.length c2, .slice a.f s.f.length c3, .slice a.k s.k.length c4, .int .i64 s.fi, .int .i64 s.fk, .int .i64 s.se, .int .i64 s.co] 32)).alloc (.cells #[.int .i64 o, .string d, .bool fin] 55)) [.int .i64 0, .int .i64 0, .int .i64 0, .int .i64 0, .slice none 0 0, .slice none 0 0, .slice none 0 0, .slice none 0 0, .int .i64 0, .int .i64 0, .int .i64 0, .int .i64 0] 32); simpa only [World.size_alloc, World.size_drew] using h) (S := fun b => False) (Chg.trans Chg.go (Ext.chg hw1 _)) xom)
  have hgww1 : Chg (fun b => w.heap.size ≤ b) w w1 := Chg.trans hgw0 (Chg.mono (T := fun b => w.heap.size ≤ b) gw1 xsub)
  clear hgw0
  clear gw1 hw1
  obtain ⟨bs0, bs1, bs2, bs3, bs4, bs5, bs6, bs7, bs8, bs9, bs10, bs11, bsF, kbs⟩ := BoxV.a12 hs_w1.out
  obtain ⟨bp0, bp1, bp2, bpF, kbp⟩ := BoxV.a3 hp_w1.out
  obtain ⟨br0, br1, br2, br3, br4, br5, br6, br7, br8, br9, br10, br11, brF, kbr⟩ := BoxV.a12 hr_w1.out
  have ⟨nesp, neps⟩ := ne2 (show w.heap.size ≠ w.heap.size + 1 by omega)
  have ⟨nesr, ners⟩ := ne2 (show w.heap.size ≠ w.heap.size + 1 + 1 by omega)
  have ⟨nepr, nerp⟩ := ne2 (show w.heap.size + 1 ≠ w.heap.size + 1 + 1 by omega)
  (try simp only [World.size_alloc, World.size_drew, World.size_setCell] at owng)
  replace owng := hide owng
  go_wp2
  rw [ht.out]
  refine bodyPost_ret (v := .agg #[.int .i64 t.st, .int .i64 t.z, .int .i64 t.b, .int .i64 t.e, .slice g1 t.xs.length k1, .slice g2 t.p.length k2, .slice g3 t.f.length k3, .slice g4 t.k.length k4, .int .i64 t.fi, .int .i64 t.fk, .int .i64 t.se, .int .i64 t.co]) (by simp [results, Try.results37, go_sem, *]) rfl ⟨g1, g2, g3, g4, k1, k2, k3, k4, rfl, ?_, ?_⟩
  · exact OwnSnV.mono (OwnSnV.chg (S := fun b => b = w.heap.size + 1 + 1) owng.out Chg.go xap) xpf xpf
  · exact (Chg.ext (S := fun b => w.heap.size ≤ b) (Chg.trans hgww1 (Chg.mono (S := fun b => b = w.heap.size + 1 + 1) (T := fun b => w.heap.size ≤ b) Chg.go xsub)) (fun b h1 h2 => by (try dsimp only at h2); omega))
theorem SnAny.ak {s : Sn} (h : SnAny s) (v : Bool) (o : Int) (d : ByteArray) (fin : Bool) (hv : actV v s = true → Vld s) : SnSm (akX v s o d fin) := by
  have h1 := h.len
  have h2 := h.p
  have h3 := h.f
  have h4 := h.k
  have h5 := h.e
  unfold akX
  split
  · rename_i hc
    obtain ⟨k1, k2, k3⟩ := hear_parts hc
    have hV := hv k1
    have hA := (ak_act hV k2 k3 (fin := fin)).lens (by show s.e ≤ 1000; omega)
    refine ⟨?_, by show s.p.length ≤ 3000; omega, ?_, ?_, by show -1 ≤ s.e ∧ s.e ≤ 1000; omega⟩
    · show (setN s.xs s.z s.b (fun _ => 0) (akB s o d.size - s.b).toNat).length ≤ 1000
      rw [setN_length]; omega
    · have := hA.2.1; omega
    · have := hA.2.2; omega
  · exact h.sm
theorem SnAny.lo {s : Sn} (h : SnAny s) (v : Bool) (o : Int) (d : ByteArray) (fin : Bool) (hv : actV v s = true → Vld s) : SnSm (loX v s o d fin) := by
  have h1 := h.len
  have h4 := h.k
  have h5 := h.e
  unfold loX
  split
  · rename_i hc
    obtain ⟨k1, k2, k3⟩ := hear_parts hc
    have hV := hv k1
    have hA := (lo_act hV k2 k3 (fin := fin)).lens (by show s.e ≤ 1000; omega)
    refine ⟨by show s.xs.length ≤ 1000; omega, ?_, ?_, by show s.k.length ≤ 3000; omega, by show -1 ≤ s.e ∧ s.e ≤ 1000; omega⟩
    · have := hA.1; omega
    · have := hA.2.1; omega
  · exact h.sm
theorem any_ak {s : Sn} (h : SnAny s) (o : Int) (d : ByteArray) (fin : Bool) (hv : sndS s = true) : sndI (akX (sndS s) s o d fin) = true ∧ s.st ≤ (akX (sndS s) s o d fin).st ∧ (∀ m, inR s.k m → inR (akX (sndS s) s o d fin).k m) ∧ ((akX (sndS s) s o d fin).f.length < s.f.length → hit (akX (sndS s) s o d fin).f o d.size = []) := by
  unfold akX
  split
  · rename_i hc
    obtain ⟨k1, k2, k3⟩ := hear_parts hc
    have hV := any_vld h k1
    have h2 := (actV_iff.1 k1).2.2
    exact ⟨(ak_act hV k2 k3).sndI (by show s.e ≤ _; have := h.e; omega), (st_up hV.st h2 hV.hd.fk0 hV.hd.fk1).1, fun m hm => ak_keeps hV k2 k3 m hm, fun _ => ak_hit hV k2 k3⟩
  · exact ⟨h.same.trans hv, Int.le_refl _, fun m hm => hm, fun hh => absurd hh (Nat.lt_irrefl _)⟩
theorem any_lo {s : Sn} (h : SnAny s) (o : Int) (d : ByteArray) (fin : Bool) (hv : sndS s = true) : sndI (loX (sndS s) s o d fin) = true ∧ s.st ≤ (loX (sndS s) s o d fin).st ∧ (∀ m, inR s.k m → inR (loX (sndS s) s o d fin).k m) := by
  unfold loX
  split
  · rename_i hc
    obtain ⟨k1, k2, k3⟩ := hear_parts hc
    have hV := any_vld h k1
    have h2 := (actV_iff.1 k1).2.2
    exact ⟨(lo_act hV k2 k3).sndI (by show s.e ≤ _; have := h.e; omega), (st_up (b' := s.b) hV.st h2 hV.hd.fk0 hV.hd.fk1).2, fun m hm => hm⟩
  · exact ⟨h.same.trans hv, Int.le_refl _, fun m hm => hm⟩
theorem lo_same {v : Bool} {t : Sn} {o : Int} {d : ByteArray} {fin : Bool} (h : hit t.f o d.size = []) : (loX v t o d fin).p = t.p := by
  unfold loX
  split
  · show (hit t.f o d.size).foldl addR t.p = t.p
    rw [h]; rfl
  · rfl
theorem snd_vld {t : Sn} (hs : SnSm t) (h : sndI t = true) (ha : actV (sndI t) t = true) : Vld t := by
  obtain ⟨-, h2, h3⟩ := actV_iff.1 ha
  refine (act_iff (by have := hs.e; omega) ?_).1 h
  simp only [isRst, Bool.or_eq_false_iff, decide_eq_false_iff_not]
  omega
theorem SnSm.lo {t : Sn} (h : SnSm t) (o : Int) (d : ByteArray) (fin : Bool) (hv : actV (sndI t) t = true → Vld t) : SnSm (loX (sndI t) t o d fin) := by
  have h1 := h.x
  have h4 := h.k
  have h5 := h.e
  unfold loX
  split
  · rename_i hc
    obtain ⟨k1, k2, k3⟩ := hear_parts hc
    have hA := (lo_act (hv k1) k2 k3 (fin := fin)).lens (by show t.e ≤ 1000; omega)
    refine ⟨h1, ?_, ?_, h4, h5⟩
    · have := hA.1; omega
    · have := hA.2.1; omega
  · exact h
set_option maxHeartbeats 8000000 in
set_option maxRecDepth 100000 in
theorem reported_walk (ao : Option Addr) (len cap : Nat) (w : World) (hc : len ≤ 1048576 → CodeAt w w.heap.size (.slice ao len cap)) :
    Calls Try.prog 5 #[.slice ao len cap] w fun e w' => e = .returned (.bool true) ∧ Ext w w' := by
  by_cases hbig : (1048576 : Int) < len
  · have hbd : decide ((1048576 : Int) < len) = true := decide_eq_true hbig
    go_enter Try.func5, Try.ntmps5
    go_wp2_with fail
    refine (big_any ao len cap _).mono ?_
    rintro e _ ⟨rfl, rfl⟩
    go_wp2
    go_ret
    exact ⟨rfl, Ext.refl _⟩
  have hbd : decide ((1048576 : Int) < len) = false := decide_eq_false hbig
  replace hc := hc (by omega)
  clear hbig
  go_enter Try.func5, Try.ntmps5
  go_wp2_with fail
  refine (big_any ao len cap _).mono ?_
  rintro e _ ⟨rfl, rfl⟩
  go_wp2_with fail
  refine (DrawAckPiece_any _ _ hc).mono ?_
  rintro en w1 ⟨s, a, c1, c2, c3, c4, o, d, fin, rfl, hok, ho, hds, hr, hw1⟩
  have q0 := hok.len
  have q1 := hok.p
  have q2 := hok.f
  have q3 := hok.k
  have q4 := hok.e
  have hsm := hide hok.same
  have hV := hide (fun (h : actV (sndS s) s = true) => any_vld hok h)
  have hVi := hide (fun (h : actV (sndI s) s = true) => any_vld hok (hok.same ▸ h))
  replace hok := hide hok
  replace hr := hide hr
  obtain ⟨v, hv⟩ : ∃ v, Hid (sndS s = v) := ⟨_, hide rfl⟩
  have zw1 := hw1.size
  (try simp at zw1)
  replace hw1 : Ext w w1 := Ext.trans Ext.go hw1
  have xw1 : Hid (Ext w w1) := hide (Ext.trans Ext.go hw1)
  go_wp2_with fail
  refine (AckPiece_impl s a c1 c2 c3 c4 o d fin _ (hr.out.ext Ext.go) (by omega) (by omega) (by omega) (by omega) (by omega) hVi.out).mono ?_
  rintro en w2 ⟨g1, g2, g3, g4, k1, k2, k3, k4, rfl, owng, hw2⟩
  rw [hsm.out] at owng ⊢
  have htm := hide (hok.out.ak (sndS s) o d fin hV.out)
  have hvl := hide (fun (h : sndS s = true) => any_ak hok.out o d fin h)
  obtain ⟨t, ht⟩ : ∃ t, Hid (akX (sndS s) s o d fin = t) := ⟨_, hide rfl⟩
  rw [ht.out] at owng htm hvl ⊢
  rw [hv.out] at hvl
  have hg := hide owng.read
  clear owng
  have zw2 := hw2.size
  (try simp at zw2)
  have bb_s := hide (BoxV.ext (BoxV.new w1 [.int .i64 s.st, .int .i64 s.z, .int .i64 s.b, .int .i64 s.e, .slice a.r s.xs.length c1, .slice a.p s.p.length c2, .slice a.f s.f.length c3, .slice a.k s.k.length c4, .int .i64 s.fi, .int .i64 s.fk, .int .i64 s.se, .int .i64 s.co] 32) (Ext.trans Ext.go hw2))
  have bb_p := hide (BoxV.ext (show BoxV (w1.heap.size + 1) ((w1.alloc (.cells #[.int .i64 s.st, .int .i64 s.z, .int .i64 s.b, .int .i64 s.e, .slice a.r s.xs.length c1, .slice a.p s.p.length c2, .slice a.f s.f.length c3, .slice a.k s.k.length c4, .int .i64 s.fi, .int .i64 s.fk, .int .i64 s.se, .int .i64 s.co] 32)).alloc (.cells #[.int .i64 o, .string d, .bool fin] 55)) [.int .i64 o, .string d, .bool fin] from by have h := (BoxV.new (w1.alloc (.cells #[.int .i64 s.st, .int .i64 s.z, .int .i64 s.b, .int .i64 s.e, .slice a.r s.xs.length c1, .slice a.p s.p.length c2, .slice a.f s.f.length c3, .slice a.k s.k.length c4, .int .i64 s.fi, .int .i64 s.fk, .int .i64 s.se, .int .i64 s.co] 32)) [.int .i64 o, .string d, .bool fin] 55); simpa only [World.size_alloc, World.size_drew] using h) (Ext.trans Ext.go hw2))
  replace hw2 : Ext w1 w2 := Ext.trans Ext.go hw2
  have xw2 : Hid (Ext w w2) := hide (Ext.trans Ext.go hw2)
  have ns := bb_s.out
  obtain ⟨cs0, cs1, cs2, cs3, cs4, cs5, cs6, cs7, cs8, cs9, cs10, cs11, -, ks⟩ := BoxV.a12 ns
  clear ns
  have np := bb_p.out
  obtain ⟨cp0, cp1, cp2, -, kp⟩ := BoxV.a3 np
  clear np
  go_wp2_with fail
  refine (AckPiece_spec s a c1 c2 c3 c4 o d fin _ (hr.out.ext Ext.go) (by omega) (by omega) (by omega) (by omega) (by omega) hV.out).mono ?_
  rintro en w3 ⟨e1, e2, e3, e4, n1, n2, n3, n4, rfl, owne, hw3⟩
  rw [ht.out] at owne ⊢
  have he := hide owne.read
  clear owne
  obtain ⟨m1, m2, m3, m4, m5⟩ := htm.out
  have zw3 := hw3.size
  (try simp at zw3)
  have bb_a := hide (BoxV.ext (BoxV.new w2 [.int .i64 t.st, .int .i64 t.z, .int .i64 t.b, .int .i64 t.e, .slice g1 t.xs.length k1, .slice g2 t.p.length k2, .slice g3 t.f.length k3, .slice g4 t.k.length k4, .int .i64 t.fi, .int .i64 t.fk, .int .i64 t.se, .int .i64 t.co] 32) (Ext.trans Ext.go hw3))
  replace hw3 : Ext w2 w3 := Ext.trans Ext.go hw3
  have xw3 : Hid (Ext w w3) := hide (Ext.trans Ext.go hw3)
  clear cs0 cs1 cs2 cs3 cs4 cs5 cs6 cs7 cs8 cs9 cs10 cs11 ks cp0 cp1 cp2 kp
  have ns := bb_s.out.ext (show Ext w2 w3 from Ext.go)
  obtain ⟨cs0, cs1, cs2, cs3, cs4, cs5, cs6, cs7, cs8, cs9, cs10, cs11, -, ks⟩ := BoxV.a12 ns
  clear ns
  have np := bb_p.out.ext (show Ext w2 w3 from Ext.go)
  obtain ⟨cp0, cp1, cp2, -, kp⟩ := BoxV.a3 np
  clear np
  as_aux_lemma =>
    go_wp2_with fail
    refine (LosePiece_impl s a c1 c2 c3 c4 o d fin _ (hr.out.ext Ext.go) (by omega) (by omega) (by omega) (by omega) (by omega) hVi.out).mono ?_
    rintro en w4 ⟨h1, h2, h3, h4, l1, l2, l3, l4, rfl, ownh, hw4⟩
    rw [hsm.out] at ownh ⊢
    have hum := hide (hok.out.lo (sndS s) o d fin hV.out)
    have hul := hide (fun (h : sndS s = true) => any_lo hok.out o d fin h)
    obtain ⟨u, hu⟩ : ∃ t, Hid (loX (sndS s) s o d fin = t) := ⟨_, hide rfl⟩
    rw [hu.out] at ownh hum hul ⊢
    rw [hv.out] at hul
    have hh := hide ownh.read
    clear ownh
    have zw4 := hw4.size
    (try simp at zw4)
    have bb_b := hide (BoxV.ext (BoxV.new w3 [.int .i64 t.st, .int .i64 t.z, .int .i64 t.b, .int .i64 t.e, .slice e1 t.xs.length n1, .slice e2 t.p.length n2, .slice e3 t.f.length n3, .slice e4 t.k.length n4, .int .i64 t.fi, .int .i64 t.fk, .int .i64 t.se, .int .i64 t.co] 32) (Ext.trans Ext.go hw4))
    replace hw4 : Ext w3 w4 := Ext.trans Ext.go hw4
    have xw4 : Hid (Ext w w4) := hide (Ext.trans Ext.go hw4)
    clear cs0 cs1 cs2 cs3 cs4 cs5 cs6 cs7 cs8 cs9 cs10 cs11 ks cp0 cp1 cp2 kp
    have ns := bb_s.out.ext (show Ext w2 w4 from Ext.go)
    obtain ⟨cs0, cs1, cs2, cs3, cs4, cs5, cs6, cs7, cs8, cs9, cs10, cs11, -, ks⟩ := BoxV.a12 ns
    clear ns
    have np := bb_p.out.ext (show Ext w2 w4 from Ext.go)
    obtain ⟨cp0, cp1, cp2, -, kp⟩ := BoxV.a3 np
    clear np
    go_wp2_with fail
    refine (LosePiece_spec s a c1 c2 c3 c4 o d fin _ (hr.out.ext Ext.go) (by omega) (by omega) (by omega) (by omega) (by omega) hV.out).mono ?_
    rintro en w5 ⟨i1, i2, i3, i4, j1, j2, j3, j4, rfl, owni, hw5⟩
    rw [hu.out] at owni ⊢
    have hi := hide owni.read
    clear owni
    obtain ⟨w1_, w2_, w3_, w4_, w5_⟩ := hum.out
    have zw5 := hw5.size
    (try simp at zw5)
    have bb_l := hide (BoxV.ext (BoxV.new w4 [.int .i64 u.st, .int .i64 u.z, .int .i64 u.b, .int .i64 u.e, .slice h1 u.xs.length l1, .slice h2 u.p.length l2, .slice h3 u.f.length l3, .slice h4 u.k.length l4, .int .i64 u.fi, .int .i64 u.fk, .int .i64 u.se, .int .i64 u.co] 32) (Ext.trans Ext.go hw5))
    replace hw5 : Ext w4 w5 := Ext.trans Ext.go hw5
    have xw5 : Hid (Ext w w5) := hide (Ext.trans Ext.go hw5)
    clear cs0 cs1 cs2 cs3 cs4 cs5 cs6 cs7 cs8 cs9 cs10 cs11 ks cp0 cp1 cp2 kp
    have na := bb_a.out.ext (show Ext w3 w5 from Ext.go)
    obtain ⟨ca0, ca1, ca2, ca3, ca4, ca5, ca6, ca7, ca8, ca9, ca10, ca11, -, ka⟩ := BoxV.a12 na
    clear na
    have nb := bb_b.out.ext (show Ext w4 w5 from Ext.go)
    obtain ⟨cb0, cb1, cb2, cb3, cb4, cb5, cb6, cb7, cb8, cb9, cb10, cb11, -, kb⟩ := BoxV.a12 nb
    clear nb
    have nl := bb_l.out
    obtain ⟨cl0, cl1, cl2, cl3, cl4, cl5, cl6, cl7, cl8, cl9, cl10, cl11, -, kl⟩ := BoxV.a12 nl
    clear nl
    as_aux_lemma =>
      go_wp2_with fail
      refine (eqs_same t ⟨g1, g2, g3, g4⟩ ⟨e1, e2, e3, e4⟩ k1 k2 k3 k4 n1 n2 n3 n4 _ (hg.out.ext Ext.go) (he.out.ext Ext.go) htm.out).mono ?_
      rintro en w6 ⟨rfl, hw6⟩
      have zw6 := hw6.size
      (try simp at zw6)
      have bb_m := hide (BoxV.ext (BoxV.new w5 [.int .i64 u.st, .int .i64 u.z, .int .i64 u.b, .int .i64 u.e, .slice i1 u.xs.length j1, .slice i2 u.p.length j2, .slice i3 u.f.length j3, .slice i4 u.k.length j4, .int .i64 u.fi, .int .i64 u.fk, .int .i64 u.se, .int .i64 u.co] 32) (Ext.trans Ext.go hw6))
      replace hw6 : Ext w5 w6 := Ext.trans Ext.go hw6
      have xw6 : Hid (Ext w w6) := hide (Ext.trans Ext.go hw6)
      clear ca0 ca1 ca2 ca3 ca4 ca5 ca6 ca7 ca8 ca9 ca10 ca11 ka cb0 cb1 cb2 cb3 cb4 cb5 cb6 cb7 cb8 cb9 cb10 cb11 kb cl0 cl1 cl2 cl3 cl4 cl5 cl6 cl7 cl8 cl9 cl10 cl11 kl
      have nl := bb_l.out.ext (show Ext w5 w6 from Ext.go)
      obtain ⟨cl0, cl1, cl2, cl3, cl4, cl5, cl6, cl7, cl8, cl9, cl10, cl11, -, kl⟩ := BoxV.a12 nl
      clear nl
      have nm := bb_m.out
      obtain ⟨cm0, cm1, cm2, cm3, cm4, cm5, cm6, cm7, cm8, cm9, cm10, cm11, -, km⟩ := BoxV.a12 nm
      clear nm
      go_wp2_with fail
      refine (eqs_same u ⟨h1, h2, h3, h4⟩ ⟨i1, i2, i3, i4⟩ l1 l2 l3 l4 j1 j2 j3 j4 _ (hh.out.ext Ext.go) (hi.out.ext Ext.go) hum.out).mono ?_
      rintro en w7 ⟨rfl, hw7⟩
      have zw7 := hw7.size
      (try simp at zw7)
      replace hw7 : Ext w6 w7 := Ext.trans Ext.go hw7
      have xw7 : Hid (Ext w w7) := hide (Ext.trans Ext.go hw7)
      clear cl0 cl1 cl2 cl3 cl4 cl5 cl6 cl7 cl8 cl9 cl10 cl11 kl cm0 cm1 cm2 cm3 cm4 cm5 cm6 cm7 cm8 cm9 cm10 cm11 km
      have ns := bb_s.out.ext (show Ext w2 w7 from Ext.go)
      obtain ⟨cs0, cs1, cs2, cs3, cs4, cs5, cs6, cs7, cs8, cs9, cs10, cs11, -, ks⟩ := BoxV.a12 ns
      clear ns
      go_wp2_with fail
      refine (IsSender_spec s a c1 c2 c3 c4 _ (hr.out.ext Ext.go) (by omega) (by omega) (by omega)).mono ?_
      rintro en w8 ⟨rfl, hw8⟩
      rw [hv.out]
      have zw8 := hw8.size
      (try simp at zw8)
      replace hw8 : Ext w7 w8 := Ext.trans Ext.go hw8
      have xw8 : Hid (Ext w w8) := hide (Ext.trans Ext.go hw8)
      clear cs0 cs1 cs2 cs3 cs4 cs5 cs6 cs7 cs8 cs9 cs10 cs11 ks
      as_aux_lemma =>
        go_upto_if 42 with fail
        go_cut [] (fun wx => Ext w8 wx)
        case first =>
          as_aux_lemma =>
            cases v
            · go_wp2_with fail
              go_meet
              exact Ext.refl _
            · skip
              obtain ⟨v1, v2, v3, v4⟩ := hvl.out rfl
              obtain ⟨x1_, x2_, x3_⟩ := hul.out rfl
              have hb1 : decide (t.st < s.st) = false := decide_eq_false (by omega)
              have hb2 : decide (u.st < s.st) = false := decide_eq_false (by omega)
              replace v1 := hide v1
              replace v3 := hide v3
              replace v4 := hide v4
              replace x1_ := hide x1_
              replace x3_ := hide x3_
              have hkf := hide (sndS_hd hv.out).rk
              have nb := bb_b.out.ext (show Ext w4 w8 from Ext.go)
              obtain ⟨cb0, cb1, cb2, cb3, cb4, cb5, cb6, cb7, cb8, cb9, cb10, cb11, -, kb⟩ := BoxV.a12 nb
              clear nb
              go_wp2_with fail
              refine (IsSender_impl t ⟨e1, e2, e3, e4⟩ n1 n2 n3 n4 _ (he.out.ext Ext.go) (by omega) (by omega)).mono ?_
              rintro en a9 ⟨rfl, ha9⟩
              rw [v1.out]
              have za9 := ha9.size
              (try simp at za9)
              replace ha9 : Ext w8 a9 := Ext.trans Ext.go ha9
              have xa9 : Hid (Ext w a9) := hide (Ext.trans Ext.go ha9)
              clear cb0 cb1 cb2 cb3 cb4 cb5 cb6 cb7 cb8 cb9 cb10 cb11 kb
              have nm := bb_m.out.ext (show Ext w6 a9 from Ext.go)
              obtain ⟨cm0, cm1, cm2, cm3, cm4, cm5, cm6, cm7, cm8, cm9, cm10, cm11, -, km⟩ := BoxV.a12 nm
              clear nm
              go_wp2_with fail
              refine (IsSender_impl u ⟨i1, i2, i3, i4⟩ j1 j2 j3 j4 _ (hi.out.ext Ext.go) (by omega) (by omega)).mono ?_
              rintro en a10 ⟨rfl, ha10⟩
              rw [x1_.out]
              have za10 := ha10.size
              (try simp at za10)
              replace ha10 : Ext a9 a10 := Ext.trans Ext.go ha10
              have xa10 : Hid (Ext w a10) := hide (Ext.trans Ext.go ha10)
              clear cm0 cm1 cm2 cm3 cm4 cm5 cm6 cm7 cm8 cm9 cm10 cm11 km
              have nb := bb_b.out.ext (show Ext w4 a10 from Ext.go)
              obtain ⟨cb0, cb1, cb2, cb3, cb4, cb5, cb6, cb7, cb8, cb9, cb10, cb11, -, kb⟩ := BoxV.a12 nb
              clear nb
              have nm := bb_m.out.ext (show Ext w6 a10 from Ext.go)
              obtain ⟨cm0, cm1, cm2, cm3, cm4, cm5, cm6, cm7, cm8, cm9, cm10, cm11, -, km⟩ := BoxV.a12 nm
              clear nm
              have ns := bb_s.out.ext (show Ext w2 a10 from Ext.go)
              obtain ⟨cs0, cs1, cs2, cs3, cs4, cs5, cs6, cs7, cs8, cs9, cs10, cs11, -, ks⟩ := BoxV.a12 ns
              clear ns
              have np := bb_p.out.ext (show Ext w2 a10 from Ext.go)
              obtain ⟨cp0, cp1, cp2, -, kp⟩ := BoxV.a3 np
              clear np
              go_wp2_with fail
              refine (LosePiece_impl t ⟨e1, e2, e3, e4⟩ n1 n2 n3 n4 o d fin _ (he.out.ext Ext.go) (by omega) (by omega) (by omega) (by omega) (by omega) (fun h => snd_vld htm.out v1.out h)).mono ?_
              rintro en a11 ⟨y1, y2, y3, y4, z1, z2, z3, z4, rfl, owny, ha11⟩
              have hqm := hide (htm.out.lo o d fin (fun h => snd_vld htm.out v1.out h))
              have hqp := hide (fun (h : t.f.length < s.f.length) => lo_same (v := sndI t) (fin := fin) (v4.out h))
              obtain ⟨q, hq⟩ : ∃ t_, Hid (loX (sndI t) t o d fin = t_) := ⟨_, hide rfl⟩
              rw [hq.out] at owny hqm hqp ⊢
              have hy := hide owny.read
              clear owny
              obtain ⟨p1_, p2_, p3_, p4_, p5_⟩ := hqm.out
              have za11 := ha11.size
              (try simp at za11)
              replace ha11 : Ext a10 a11 := Ext.trans Ext.go ha11
              have xa11 : Hid (Ext w a11) := hide (Ext.trans Ext.go ha11)
              clear cb0 cb1 cb2 cb3 cb4 cb5 cb6 cb7 cb8 cb9 cb10 cb11 kb cm0 cm1 cm2 cm3 cm4 cm5 cm6 cm7 cm8 cm9 cm10 cm11 km cs0 cs1 cs2 cs3 cs4 cs5 cs6 cs7 cs8 cs9 cs10 cs11 ks cp0 cp1 cp2 kp
              have ns := bb_s.out.ext (show Ext w2 a11 from Ext.go)
              obtain ⟨cs0, cs1, cs2, cs3, cs4, cs5, cs6, cs7, cs8, cs9, cs10, cs11, -, ks⟩ := BoxV.a12 ns
              clear ns
              have np := bb_p.out.ext (show Ext w2 a11 from Ext.go)
              obtain ⟨cp0, cp1, cp2, -, kp⟩ := BoxV.a3 np
              clear np
              have nb := bb_b.out.ext (show Ext w4 a11 from Ext.go)
              obtain ⟨cb0, cb1, cb2, cb3, cb4, cb5, cb6, cb7, cb8, cb9, cb10, cb11, -, kb⟩ := BoxV.a12 nb
              clear nb
              obtain ⟨b1, hb1_⟩ : ∃ b, decide (s.st < 3) = b := ⟨_, rfl⟩
              obtain ⟨b2, hb2_⟩ : ∃ b, d.toList.isEmpty = b := ⟨_, rfl⟩
              obtain ⟨b3, hb3_⟩ : ∃ b, decide ((t.f.length : Int) < (s.f.length : Int)) = b := ⟨_, rfl⟩
              have hb3n : decide (t.f.length < s.f.length) = b3 := by rw [← hb3_]; simp
              have hwd : IntKind.i64.wrap (o + (d.size : Int)) = o + (d.size : Int) := IntWalk.i64_in _ (by omega)
              go_upto_region 14 with fail
              obtain ⟨a12, h0a12⟩ : ∃ u, u = (a11.alloc (.cells #[.int .i64 q.st, .int .i64 q.z, .int .i64 q.b, .int .i64 q.e, .slice y1 q.xs.length z1, .slice y2 q.p.length z2, .slice y3 q.f.length z3, .slice y4 q.k.length z4, .int .i64 q.fi, .int .i64 q.fk, .int .i64 q.se, .int .i64 q.co] 32)) := ⟨_, rfl⟩
              rw [← h0a12]
              have ha12 : Ext (a11.alloc (.cells #[.int .i64 q.st, .int .i64 q.z, .int .i64 q.b, .int .i64 q.e, .slice y1 q.xs.length z1, .slice y2 q.p.length z2, .slice y3 q.f.length z3, .slice y4 q.k.length z4, .int .i64 q.fi, .int .i64 q.fk, .int .i64 q.se, .int .i64 q.co] 32)) a12 := h0a12 ▸ Ext.refl _
              clear h0a12
              have za12 := ha12.size
              (try simp at za12)
              have bb_g := hide (BoxV.ext (BoxV.new a11 [.int .i64 q.st, .int .i64 q.z, .int .i64 q.b, .int .i64 q.e, .slice y1 q.xs.length z1, .slice y2 q.p.length z2, .slice y3 q.f.length z3, .slice y4 q.k.length z4, .int .i64 q.fi, .int .i64 q.fk, .int .i64 q.se, .int .i64 q.co] 32) (Ext.trans Ext.go ha12))
              replace ha12 : Ext a11 a12 := Ext.trans Ext.go ha12
              have xa12 : Hid (Ext w a12) := hide (Ext.trans Ext.go ha12)
              clear cs0 cs1 cs2 cs3 cs4 cs5 cs6 cs7 cs8 cs9 cs10 cs11 ks cp0 cp1 cp2 kp cb0 cb1 cb2 cb3 cb4 cb5 cb6 cb7 cb8 cb9 cb10 cb11 kb
              go_cut [115] (fun tq wx => tq = .bool false ∧ Ext a12 wx)
              case first =>
                as_aux_lemma =>
                  cases b1
                  · skip
                    as_aux_lemma =>
                      have ns := bb_s.out.ext (show Ext w2 a12 from Ext.go)
                      obtain ⟨cs0, cs1, cs2, cs3, cs4, cs5, cs6, cs7, cs8, cs9, cs10, cs11, -, ks⟩ := BoxV.a12 ns
                      clear ns
                      have np := bb_p.out.ext (show Ext w2 a12 from Ext.go)
                      obtain ⟨cp0, cp1, cp2, -, kp⟩ := BoxV.a3 np
                      clear np
                      have nb := bb_b.out.ext (show Ext w4 a12 from Ext.go)
                      obtain ⟨cb0, cb1, cb2, cb3, cb4, cb5, cb6, cb7, cb8, cb9, cb10, cb11, -, kb⟩ := BoxV.a12 nb
                      clear nb
                      go_wp2_with fail
                      refine wp_region_flowE 46 [(0, 1), (1, 1), (2, 1), (3, 1), (4, 1), (5, 1), (6, 1), (7, 1), (8, 1), (9, 1), (10, 1), (11, 1), (12, 1), (13, 1), (14, 1), (15, 1), (16, 1), (17, 1), (18, 1), (19, 1), (20, 1), (21, 1), (22, 1), (23, 1), (24, 1), (25, 1), (26, 1), (27, 1), (28, 1), (29, 1), (30, 1), (31, 1), (32, 1), (33, 1), (34, 1), (35, 1), (36, 1), (37, 1), (38, 1), (39, 1), (40, 1), (41, 1), (42, 1), (43, 1), (44, 1), (45, 1)] (by kernel_rfl) (by kernel_rfl) ?_
                      iterate 46 ((first | (refine wpF_off rfl rfl (by rfl) ?_) | (refine wpF_pure (v := ?_) rfl rfl (by rfl) ?_ ?_; rotate_left; (focus (intro ws hws; obtain ⟨qs, ps⟩ := hws.row (k := w1.heap.size) xpf; obtain ⟨qp, pp⟩ := hws.row (k := w1.heap.size + 1) xpf; obtain ⟨qb, pb⟩ := hws.row (k := w3.heap.size) xpf; go_simp; (try with_reducible rfl); done)))); try simp only [nrm, nrg])
                      refine wpF_done rfl ?_
                      simp only [List.drop_succ_cons, List.drop_zero, List.drop_nil]
                      go_wp2_with fail
                      go_meet
                      exact ⟨rfl, Ext.go⟩
                  cases b2
                  rotate_left
                  · skip
                    as_aux_lemma =>
                      have ns := bb_s.out.ext (show Ext w2 a12 from Ext.go)
                      obtain ⟨cs0, cs1, cs2, cs3, cs4, cs5, cs6, cs7, cs8, cs9, cs10, cs11, -, ks⟩ := BoxV.a12 ns
                      clear ns
                      have np := bb_p.out.ext (show Ext w2 a12 from Ext.go)
                      obtain ⟨cp0, cp1, cp2, -, kp⟩ := BoxV.a3 np
                      clear np
                      have nb := bb_b.out.ext (show Ext w4 a12 from Ext.go)
                      obtain ⟨cb0, cb1, cb2, cb3, cb4, cb5, cb6, cb7, cb8, cb9, cb10, cb11, -, kb⟩ := BoxV.a12 nb
                      clear nb
                      go_wp2_with fail
                      refine wp_region_flowE 46 [(0, 1), (1, 1), (2, 1), (3, 1), (4, 1), (5, 1), (6, 1), (7, 1), (8, 1), (9, 1), (10, 1), (11, 1), (12, 1), (13, 1), (14, 1), (15, 1), (16, 1), (17, 1), (18, 1), (19, 1), (20, 1), (21, 1), (22, 1), (23, 1), (24, 1), (25, 1), (26, 1), (27, 1), (28, 1), (29, 1), (30, 1), (31, 1), (32, 1), (33, 1), (34, 1), (35, 1), (36, 1), (37, 1), (38, 1), (39, 1), (40, 1), (41, 1), (42, 1), (43, 1), (44, 1), (45, 1)] (by kernel_rfl) (by kernel_rfl) ?_
                      iterate 46 ((first | (refine wpF_off rfl rfl (by rfl) ?_) | (refine wpF_pure (v := ?_) rfl rfl (by rfl) ?_ ?_; rotate_left; (focus (intro ws hws; obtain ⟨qs, ps⟩ := hws.row (k := w1.heap.size) xpf; obtain ⟨qp, pp⟩ := hws.row (k := w1.heap.size + 1) xpf; obtain ⟨qb, pb⟩ := hws.row (k := w3.heap.size) xpf; go_simp; (try with_reducible rfl); done)))); try simp only [nrm, nrg])
                      refine wpF_done rfl ?_
                      simp only [List.drop_succ_cons, List.drop_zero, List.drop_nil]
                      go_wp2_with fail
                      go_meet
                      exact ⟨rfl, Ext.go⟩
                  cases b3
                  · skip
                    as_aux_lemma =>
                      have ns := bb_s.out.ext (show Ext w2 a12 from Ext.go)
                      obtain ⟨cs0, cs1, cs2, cs3, cs4, cs5, cs6, cs7, cs8, cs9, cs10, cs11, -, ks⟩ := BoxV.a12 ns
                      clear ns
                      have np := bb_p.out.ext (show Ext w2 a12 from Ext.go)
                      obtain ⟨cp0, cp1, cp2, -, kp⟩ := BoxV.a3 np
                      clear np
                      have nb := bb_b.out.ext (show Ext w4 a12 from Ext.go)
                      obtain ⟨cb0, cb1, cb2, cb3, cb4, cb5, cb6, cb7, cb8, cb9, cb10, cb11, -, kb⟩ := BoxV.a12 nb
                      clear nb
                      go_wp2_with fail
                      refine wp_region_flowE 46 [(0, 1), (1, 1), (2, 1), (3, 1), (4, 1), (5, 1), (6, 1), (7, 1), (8, 1), (9, 1), (10, 1), (11, 1), (12, 1), (13, 1), (14, 1), (15, 1), (16, 1), (17, 1), (18, 1), (19, 1), (20, 1), (21, 1), (22, 1), (23, 1), (24, 1), (25, 1), (26, 1), (27, 1), (28, 1), (29, 1), (30, 1), (31, 1), (32, 1), (33, 1), (34, 1), (35, 1), (36, 1), (37, 1), (38, 1), (39, 1), (40, 1), (41, 1), (42, 1), (43, 1), (44, 1), (45, 1)] (by kernel_rfl) (by kernel_rfl) ?_
                      iterate 46 ((first | (refine wpF_off rfl rfl (by rfl) ?_) | (refine wpF_pure (v := ?_) rfl rfl (by rfl) ?_ ?_; rotate_left; (focus (intro ws hws; obtain ⟨qs, ps⟩ := hws.row (k := w1.heap.size) xpf; obtain ⟨qp, pp⟩ := hws.row (k := w1.heap.size + 1) xpf; obtain ⟨qb, pb⟩ := hws.row (k := w3.heap.size) xpf; go_simp; (try with_reducible rfl); done)))); try simp only [nrm, nrg])
                      refine wpF_done rfl ?_
                      simp only [List.drop_succ_cons, List.drop_zero, List.drop_nil]
                      go_wp2_with fail
                      go_meet
                      exact ⟨rfl, Ext.go⟩
                  have hlt := of_decide_eq_true hb3_
                  have hpp := hide (hqp.out (by omega))
                  clear hlt
                  obtain ⟨C, hC⟩ : ∃ C, Hid (comR t.p (o, o + (d.size : Int)) = C) := ⟨_, hide rfl⟩
                  have hCl := comR_len t.p (o, o + (d.size : Int))
                  rw [hC.out] at hCl
                  have ns := bb_s.out.ext (show Ext w2 a12 from Ext.go)
                  obtain ⟨cs0, cs1, cs2, cs3, cs4, cs5, cs6, cs7, cs8, cs9, cs10, cs11, -, ks⟩ := BoxV.a12 ns
                  clear ns
                  have np := bb_p.out.ext (show Ext w2 a12 from Ext.go)
                  obtain ⟨cp0, cp1, cp2, -, kp⟩ := BoxV.a3 np
                  clear np
                  have nb := bb_b.out.ext (show Ext w4 a12 from Ext.go)
                  obtain ⟨cb0, cb1, cb2, cb3, cb4, cb5, cb6, cb7, cb8, cb9, cb10, cb11, -, kb⟩ := BoxV.a12 nb
                  clear nb
                  have ng := bb_g.out
                  obtain ⟨cg0, cg1, cg2, cg3, cg4, cg5, cg6, cg7, cg8, cg9, cg10, cg11, -, kg⟩ := BoxV.a12 ng
                  clear ng
                  go_wp2_with fail
                  refine wp_region_flowE 46 [(0, 1), (1, 1), (2, 1), (3, 1), (4, 1), (5, 1), (6, 1), (7, 1), (8, 1), (9, 1), (10, 1), (11, 1), (12, 1), (13, 1), (14, 1), (15, 1), (16, 1), (17, 1), (18, 1), (19, 1), (20, 1), (21, 1), (22, 1), (23, 1), (24, 1), (25, 1), (26, 1), (27, 1), (28, 1), (32, 1), (33, 1), (34, 1), (35, 1), (36, 1), (37, 1), (38, 1), (39, 1), (40, 1), (41, 1), (42, 1), (29, 45), (30, 45), (31, 1), (43, 0), (44, 0), (45, 1)] (by kernel_rfl) (by kernel_rfl) ?_
                  iterate 40 ((refine wpF_pure (v := ?_) rfl rfl (by rfl) ?_ ?_; rotate_left; (focus (intro ws hws; obtain ⟨qs_, fs_⟩ := hws.row (k := w1.heap.size) xpf; obtain ⟨qp_, fp_⟩ := hws.row (k := w1.heap.size + 1) xpf; obtain ⟨qb_, fb_⟩ := hws.row (k := w3.heap.size) xpf; obtain ⟨qg_, fg_⟩ := hws.row (k := a11.heap.size) xpf; go_simp; (try with_reducible rfl); done))); try simp only [nrm, nrg])
                  refine wpF_fork (o2 := [(0, 1), (1, 1), (2, 1), (3, 1), (4, 1), (5, 1), (6, 1), (7, 1), (8, 1), (9, 1), (10, 1), (11, 1), (12, 1), (13, 1), (14, 1), (15, 1), (16, 1), (17, 1), (18, 1), (19, 1), (20, 1), (21, 1), (22, 1), (23, 1), (24, 1), (25, 1), (26, 1), (27, 1), (28, 1), (32, 1), (33, 1), (34, 1), (35, 1), (36, 1), (37, 1), (38, 1), (39, 1), (40, 1), (41, 1), (42, 1), (43, 31), (29, 0), (30, 0), (31, 1), (44, 0), (45, 1)]) rfl rfl rfl (by kernel_rfl) rfl rfl (Ext.refl _) (StepF.made (.slice (some ⟨a12.heap.size, 0, none⟩) 1 1) (a12.drew.alloc (.cells #[.int .i64 o, .int .i64 (o + (d.size : Int))] 61)) (by rfl) ?_ ((Ext.refl _).alloc _) ?_) (StepF.made (.slice (some ⟨a12.heap.size, 0, none⟩) 1 1) (a12.drew.alloc (.cells #[.int .i64 o, .int .i64 (o + (d.size : Int))] 61)) (by rfl) ?_ ((Ext.refl _).alloc _) ?_)
                  · go_simp
                  · skip
                    as_aux_lemma =>
                      try simp only [nrm, nrg]
                      (refine wpF_forkCA (o2 := [(0, 1), (1, 1), (2, 1), (3, 1), (4, 1), (5, 1), (6, 1), (7, 1), (8, 1), (9, 1), (10, 1), (11, 1), (12, 1), (13, 1), (14, 1), (15, 1), (16, 1), (17, 1), (18, 1), (19, 1), (20, 1), (21, 1), (22, 1), (23, 1), (24, 1), (25, 1), (26, 1), (27, 1), (28, 1), (32, 1), (33, 1), (34, 1), (35, 1), (36, 1), (37, 1), (38, 1), (39, 1), (40, 1), (41, 1), (42, 1), (29, 45), (43, 32), (30, 0), (31, 1), (44, 0), (45, 1)]) 41 ?_ (.slice (some ⟨a12.heap.size + 1, 0, none⟩) 1 1) ((a12.drew.alloc (.cells #[.int .i64 o, .int .i64 (o + (d.size : Int))] 61)).alloc (.cells #[.int .i64 o, .int .i64 (o + (d.size : Int))] 61)) rfl rfl rfl (by kernel_rfl) rfl rfl (Ext.refl _) (by rfl) (by rfl) ?_ (by go_simp) ((Ext.refl _).alloc _) ?_ ?_; rotate_left; (focus (go_simp; (try with_reducible rfl); done)))
                      · skip
                        refine (CommonRanges_spec o (o + (d.size : Int)) y2 (some ⟨a12.heap.size, 0, none⟩) q.p.length z2 1 q.p _ ((hy.out.ext Ext.go).p) (by exact read_made _ _ (by simp)) rfl (by omega)).mono ?_
                        rintro en c13 ⟨ac, cc, rfl, owc, hc13⟩
                        refine ⟨_, rfl, hc13, ?_⟩
                        try simp only [nrm, nrg]
                        rw [hpp.out, hC.out]
                        clear owc
                        have zc13 := hc13.size
                        (try simp at zc13)
                        (refine wpF_pure (v := ?_) rfl rfl (by rfl) ?_ ?_; rotate_left; (focus (intro ws hws; go_simp; (try with_reducible rfl); done)))
                        try simp only [nrm, nrg]
                        refine wpF_made (.slice (some ⟨c13.heap.size, 0, none⟩) 1 1) (c13.alloc (.cells #[.int .i64 o, .int .i64 (o + (d.size : Int))] 61)) rfl rfl (by rfl) (by go_simp) ((Ext.refl _).alloc _) ?_
                        try simp only [nrm, nrg]
                        have xc13 : Hid (Ext w c13) := hide (Ext.trans Ext.go hc13)
                        (refine wpF_call 41 ?_ rfl rfl (by rfl) ?_ ?_; rotate_left; (focus (go_simp; (try with_reducible rfl); done)))
                        refine (CommonRanges_spec o (o + (d.size : Int)) e2 (some ⟨c13.heap.size, 0, none⟩) t.p.length n2 1 t.p _ ((he.out.ext Ext.go).p) (by exact read_made _ _ (by simp)) rfl (by omega)).mono ?_
                        rintro en c14 ⟨ad, cd, rfl, owd, hc14⟩
                        refine ⟨_, rfl, hc14, ?_⟩
                        try simp only [nrm, nrg]
                        rw [hC.out]
                        clear owd
                        have zc14 := hc14.size
                        (try simp at zc14)
                        (refine wpF_pure (v := ?_) rfl rfl (by rfl) ?_ ?_; rotate_left; (focus (intro ws hws; go_simp; (try with_reducible rfl); done)))
                        try simp only [nrm, nrg]
                        refine wpF_done rfl ?_
                        simp only [List.drop_succ_cons, List.drop_zero, List.drop_nil]
                        go_wp2_with fail
                        go_meet
                        exact ⟨rfl, (Ext.trans (Ext.alloc (Ext.trans (b := (a12.drew.alloc (.cells #[.int .i64 o, .int .i64 (o + (d.size : Int))] 61))) Ext.go hc13) _) hc14)⟩
                      · skip
                        try simp only [nrm, nrg]
                        (refine wpF_call 41 ?_ rfl rfl (by rfl) ?_ ?_; rotate_left; (focus (go_simp; (try with_reducible rfl); done)))
                        refine (CommonRanges_spec o (o + (d.size : Int)) y2 (some ⟨a12.heap.size, 0, none⟩) q.p.length z2 1 q.p _ ((hy.out.ext Ext.go).p) (by exact (read_made (X := a12.drew) _ _ (by simp)).ext ((Ext.refl _).alloc _)) rfl (by omega)).mono ?_
                        rintro en c13 ⟨ac, cc, rfl, owc, hc13⟩
                        refine ⟨_, rfl, hc13, ?_⟩
                        try simp only [nrm, nrg]
                        rw [hpp.out, hC.out]
                        clear owc
                        have zc13 := hc13.size
                        (try simp at zc13)
                        (refine wpF_pure (v := ?_) rfl rfl (by rfl) ?_ ?_; rotate_left; (focus (intro ws hws; go_simp; (try with_reducible rfl); done)))
                        try simp only [nrm, nrg]
                        have xc13 : Hid (Ext w c13) := hide (Ext.trans (b := ((a12.drew.alloc (.cells #[.int .i64 o, .int .i64 (o + (d.size : Int))] 61)).alloc (.cells #[.int .i64 o, .int .i64 (o + (d.size : Int))] 61))) Ext.go hc13)
                        (refine wpF_call 41 ?_ rfl rfl (by rfl) ?_ ?_; rotate_left; (focus (go_simp; (try with_reducible rfl); done)))
                        refine (CommonRanges_spec o (o + (d.size : Int)) e2 (some ⟨a12.heap.size + 1, 0, none⟩) t.p.length n2 1 t.p _ ((he.out.ext Ext.go).p) (by exact (read_made (X := (a12.drew.alloc (.cells #[.int .i64 o, .int .i64 (o + (d.size : Int))] 61))) o (o + (d.size : Int)) (by simp)).ext hc13) rfl (by omega)).mono ?_
                        rintro en c14 ⟨ad, cd, rfl, owd, hc14⟩
                        refine ⟨_, rfl, hc14, ?_⟩
                        try simp only [nrm, nrg]
                        rw [hC.out]
                        clear owd
                        have zc14 := hc14.size
                        (try simp at zc14)
                        (refine wpF_pure (v := ?_) rfl rfl (by rfl) ?_ ?_; rotate_left; (focus (intro ws hws; go_simp; (try with_reducible rfl); done)))
                        try simp only [nrm, nrg]
                        refine wpF_done rfl ?_
                        simp only [List.drop_succ_cons, List.drop_zero, List.drop_nil]
                        go_wp2_with fail
                        go_meet
                        exact ⟨rfl, (Ext.trans (Ext.trans (b := ((a12.drew.alloc (.cells #[.int .i64 o, .int .i64 (o + (d.size : Int))] 61)).alloc (.cells #[.int .i64 o, .int .i64 (o + (d.size : Int))] 61))) Ext.go hc13) hc14)⟩
                  · go_simp
                  · skip
                    as_aux_lemma =>
                      try simp only [nrm, nrg]
                      refine wpF_made (.slice (some ⟨a12.heap.size + 1, 0, none⟩) 1 1) ((a12.drew.alloc (.cells #[.int .i64 o, .int .i64 (o + (d.size : Int))] 61)).alloc (.cells #[.int .i64 o, .int .i64 (o + (d.size : Int))] 61)) rfl rfl (by rfl) (by go_simp) ((Ext.refl _).alloc _) ?_
                      try simp only [nrm, nrg]
                      (refine wpF_call 41 ?_ rfl rfl (by rfl) ?_ ?_; rotate_left; (focus (go_simp; (try with_reducible rfl); done)))
                      refine (CommonRanges_spec o (o + (d.size : Int)) y2 (some ⟨a12.heap.size + 1, 0, none⟩) q.p.length z2 1 q.p _ ((hy.out.ext Ext.go).p) (by exact read_made _ _ (by simp)) rfl (by omega)).mono ?_
                      rintro en c13 ⟨ac, cc, rfl, owc, hc13⟩
                      refine ⟨_, rfl, hc13, ?_⟩
                      try simp only [nrm, nrg]
                      rw [hpp.out, hC.out]
                      clear owc
                      have zc13 := hc13.size
                      (try simp at zc13)
                      (refine wpF_pure (v := ?_) rfl rfl (by rfl) ?_ ?_; rotate_left; (focus (intro ws hws; go_simp; (try with_reducible rfl); done)))
                      try simp only [nrm, nrg]
                      have xc13 : Hid (Ext w c13) := hide (Ext.trans (b := ((a12.drew.alloc (.cells #[.int .i64 o, .int .i64 (o + (d.size : Int))] 61)).alloc (.cells #[.int .i64 o, .int .i64 (o + (d.size : Int))] 61))) Ext.go hc13)
                      (refine wpF_call 41 ?_ rfl rfl (by rfl) ?_ ?_; rotate_left; (focus (go_simp; (try with_reducible rfl); done)))
                      refine (CommonRanges_spec o (o + (d.size : Int)) e2 (some ⟨a12.heap.size, 0, none⟩) t.p.length n2 1 t.p _ ((he.out.ext Ext.go).p) (by exact (read_made (X := a12.drew) o (o + (d.size : Int)) (by simp)).ext (((Ext.refl _).alloc _).trans hc13)) rfl (by omega)).mono ?_
                      rintro en c14 ⟨ad, cd, rfl, owd, hc14⟩
                      refine ⟨_, rfl, hc14, ?_⟩
                      try simp only [nrm, nrg]
                      rw [hC.out]
                      clear owd
                      have zc14 := hc14.size
                      (try simp at zc14)
                      (refine wpF_pure (v := ?_) rfl rfl (by rfl) ?_ ?_; rotate_left; (focus (intro ws hws; go_simp; (try with_reducible rfl); done)))
                      try simp only [nrm, nrg]
                      refine wpF_done rfl ?_
                      simp only [List.drop_succ_cons, List.drop_zero, List.drop_nil]
                      go_wp2_with fail
                      go_meet
                      exact ⟨rfl, (Ext.trans (Ext.trans (b := ((a12.drew.alloc (.cells #[.int .i64 o, .int .i64 (o + (d.size : Int))] 61)).alloc (.cells #[.int .i64 o, .int .i64 (o + (d.size : Int))] 61))) Ext.go hc13) hc14)⟩
              case rest =>
                obtain ⟨rfl, hcut⟩ := hcut
                obtain ⟨wl, hwe⟩ : ∃ u, u = wc := ⟨_, rfl⟩
                subst hwe
                have hwl := hcut
                clear hcut
                have zwl := hwl.size
                (try simp at zwl)
                replace hwl : Ext a12 wl := Ext.trans Ext.go hwl
                have xwl : Hid (Ext w wl) := hide (Ext.trans Ext.go hwl)
                as_aux_lemma =>
                  have ns := bb_s.out.ext (show Ext w2 wl from Ext.go)
                  obtain ⟨cs0, cs1, cs2, cs3, cs4, cs5, cs6, cs7, cs8, cs9, cs10, cs11, -, ks⟩ := BoxV.a12 ns
                  clear ns
                  go_wp2_with fail
                  go_loopw [10] (fun i wr => ∃ k : Nat, i = .int .i64 k ∧ k ≤ s.k.length ∧ Ext wl wr) (fun i _ => s.k.length - (intOf i).toNat)
                  case atStart => exact ⟨0, rfl, Nat.zero_le _, Ext.refl _⟩
                  case round =>
                    obtain ⟨k, rfl, hk, hwr⟩ := hrel
                    obtain ⟨wo, hwe⟩ : ∃ u, u = wr := ⟨_, rfl⟩
                    subst hwe
                    have xwo : Hid (Ext w wo) := hide (Ext.trans Ext.go hwr)
                    clear cs0 cs1 cs2 cs3 cs4 cs5 cs6 cs7 cs8 cs9 cs10 cs11 ks
                    have ns := bb_s.out.ext (show Ext w2 wo from Ext.go)
                    obtain ⟨cs0, cs1, cs2, cs3, cs4, cs5, cs6, cs7, cs8, cs9, cs10, cs11, -, ks⟩ := BoxV.a12 ns
                    clear ns
                    by_cases hlt : k < s.k.length
                    · skip
                      rcases (hr.out.ext (show Ext _ wo from Ext.go)).k with hnil | ⟨bk, off, hak, hx⟩
                      · dsimp only at hnil; rw [hnil] at hlt; simp at hlt
                      dsimp only at hak hx
                      obtain ⟨cx, cx2⟩ := hx k hlt
                      have i1 : (0 : Int) ≤ (k : Int) := by omega
                      have i2 : (k : Int) < (s.k.length : Int) := by omega
                      have hmem : s.k.getD k dr ∈ s.k := by rw [List.getD_eq_getElem?_getD, List.getElem?_eq_getElem hlt]; exact List.getElem_mem hlt
                      obtain ⟨⟨x1, x2⟩, hx0⟩ : ∃ x : Rg, Hid (s.k.getD k dr = x) := ⟨_, hide rfl⟩
                      rw [hx0.out] at cx cx2 hmem
                      dsimp only at cx cx2
                      have hrm := rgs_fine hkf.out _ hmem
                      have hxb := rgFine_bd hrm
                      dsimp only at hxb
                      replace hmem := hide hmem
                      clear hx hx0 hrm
                      have lbk := World.block_lt_of_cell? wo _ cx
                      go_wp2_with fail
                      go_loopw [11] (fun i wr => ∃ n : Int, i = .int .i64 n ∧ x1 ≤ n ∧ n ≤ x2 ∧ Ext wo wr) (fun i _ => (x2 - intOf i).toNat)
                      case atStart => exact ⟨x1, rfl, Int.le_refl _, by omega, Ext.refl _⟩
                      case round =>
                        obtain ⟨n, rfl, hn1, hn2, hwr2⟩ := hrel
                        obtain ⟨wi, hwe⟩ : ∃ u, u = wr := ⟨_, rfl⟩
                        subst hwe
                        obtain ⟨ck, fk_⟩ := hwr2.row lbk
                        have dx := (ck _).trans cx
                        have dx2 := (ck _).trans cx2
                        clear ck fk_
                        have lbi : bk < wi.heap.size := by have := hwr2.size; omega
                        have xwi : Hid (Ext w wi) := hide (Ext.trans Ext.go hwr2)
                        clear cs0 cs1 cs2 cs3 cs4 cs5 cs6 cs7 cs8 cs9 cs10 cs11 ks
                        have ns := bb_s.out.ext (show Ext w2 wi from Ext.go)
                        obtain ⟨cs0, cs1, cs2, cs3, cs4, cs5, cs6, cs7, cs8, cs9, cs10, cs11, -, ks⟩ := BoxV.a12 ns
                        clear ns
                        have nb := bb_b.out.ext (show Ext w4 wi from Ext.go)
                        obtain ⟨cb0, cb1, cb2, cb3, cb4, cb5, cb6, cb7, cb8, cb9, cb10, cb11, -, kb⟩ := BoxV.a12 nb
                        clear nb
                        have nm := bb_m.out.ext (show Ext w6 wi from Ext.go)
                        obtain ⟨cm0, cm1, cm2, cm3, cm4, cm5, cm6, cm7, cm8, cm9, cm10, cm11, -, km⟩ := BoxV.a12 nm
                        clear nm
                        by_cases hlt2 : n < x2
                        · skip
                          have hIn : inR s.k n := ⟨(x1, x2), hmem.out, hn1, hlt2⟩
                          have hB1 : inRb t.k n = true := (inRb_iff _ _).2 (v3.out n hIn)
                          have hB2 : inRb u.k n = true := (inRb_iff _ _).2 (x3_.out n hIn)
                          replace hB1 := hide hB1
                          replace hB2 := hide hB2
                          clear hIn
                          cases b1
                          · go_wp2
                            go_roundw
                            case rel => exact ⟨n + 1, by go_num, by omega, by omega, hwr2⟩
                            case measure => simp [intOf]; omega
                          · skip
                            go_wp2_with fail
                            refine (span_any n e4 _ n4 t.k _ (he.out.ext Ext.go).k rfl (by omega)).mono ?_
                            rintro en l13 ⟨rfl, hl13⟩
                            rw [hB1.out]
                            have zl13 := hl13.size
                            (try simp at zl13)
                            replace hl13 : Ext wi l13 := Ext.trans Ext.go hl13
                            have xl13 : Hid (Ext w l13) := hide (Ext.trans Ext.go hl13)
                            clear cs0 cs1 cs2 cs3 cs4 cs5 cs6 cs7 cs8 cs9 cs10 cs11 ks cb0 cb1 cb2 cb3 cb4 cb5 cb6 cb7 cb8 cb9 cb10 cb11 kb cm0 cm1 cm2 cm3 cm4 cm5 cm6 cm7 cm8 cm9 cm10 cm11 km
                            have nm := bb_m.out.ext (show Ext w6 l13 from Ext.go)
                            obtain ⟨cm0, cm1, cm2, cm3, cm4, cm5, cm6, cm7, cm8, cm9, cm10, cm11, -, km⟩ := BoxV.a12 nm
                            clear nm
                            have ns := bb_s.out.ext (show Ext w2 l13 from Ext.go)
                            obtain ⟨cs0, cs1, cs2, cs3, cs4, cs5, cs6, cs7, cs8, cs9, cs10, cs11, -, ks⟩ := BoxV.a12 ns
                            clear ns
                            go_wp2_with fail
                            refine (span_any n i4 _ j4 u.k _ (hi.out.ext Ext.go).k rfl (by omega)).mono ?_
                            rintro en l14 ⟨rfl, hl14⟩
                            rw [hB2.out]
                            have zl14 := hl14.size
                            (try simp at zl14)
                            replace hl14 : Ext l13 l14 := Ext.trans Ext.go hl14
                            have xl14 : Hid (Ext w l14) := hide (Ext.trans Ext.go hl14)
                            clear cm0 cm1 cm2 cm3 cm4 cm5 cm6 cm7 cm8 cm9 cm10 cm11 km cs0 cs1 cs2 cs3 cs4 cs5 cs6 cs7 cs8 cs9 cs10 cs11 ks
                            go_wp2
                            go_roundw
                            case rel => exact ⟨n + 1, by go_num, by omega, by omega, Ext.go⟩
                            case measure => simp [intOf]; omega
                        · obtain rfl : n = x2 := by omega
                          go_wp2
                          go_roundw
                          case rel => exact ⟨k + 1, by go_num, by omega, hwr.trans hwr2⟩
                          case measure => simp [intOf]; omega
                    · obtain rfl : k = s.k.length := by omega
                      go_wp2_with fail
                      go_meet
                      exact Ext.go
        case rest =>
          obtain ⟨wz, hwe⟩ : ∃ u, u = wc := ⟨_, rfl⟩
          subst hwe
          have xwz : Hid (Ext w wz) := hide (Ext.trans Ext.go hcut)
          go_wp2
          go_ret
          exact ⟨rfl, Ext.go⟩
theorem reported_reads : ∀ t ∈ Try.f5.params.toList, Try.prog.readableRec t = true ∧ t < Try.prog.types.size := by
  rw [Try.params5]
  intro t ht
  simp only [List.mem_cons, List.not_mem_nil, or_false] at ht
  subst ht
  exact ⟨by kernel_rfl, of_decide_eq_true (by kernel_rfl)⟩
set_option maxRecDepth 100000 in
theorem reported_lifted (os : Os) (started : os.Started) (H : Type) (enc : TypeId × Value → H) :
    ReturnsInHanded {} Try.checked os 5 .any (Rows.fnReportedSpec.pre6 enc Try.prog Try.f5 Rows.fnReportedRow.domain false) (Rows.fnReportedSpec.post enc Try.prog Try.f5 false true false false) := by
  refine returnsInHanded_of_change (C := Try.checked) ownKnobNone started (by kernel_rfl) Try.func5
    (ChangeSpec.witness6 (enc := enc) (C := Try.checked) false ⟨#[], #[.slice none 0 0], []⟩ 8 (by kernel_rfl) (by kernel_rfl) (by kernel_rfl) (by kernel_rfl)) ?_
  intro W base args ds gs before hval0 hW hcnd _
  have hval : ∀ (j : Nat) t v, Try.f5.params[j]? = some t → args[j]? = some v → Value.okWide Try.prog W .any base t v := hval0
  have hW' := hW
  obtain ⟨p, q, hA0, hV, rfl, hfz, hnd⟩ := hW
  have hA : DataW.TrodAll enc Try.prog W 0 (fun _ => true) true Try.f5.params.toList args.toList ds p := hA0
  rw [Try.params5] at hA hval
  obtain ⟨v0, vs0, d0, ds0, p0, q0, hargs, rfl, rfl, h0, r0⟩ := trodAll_cons hA
  obtain ⟨rfl, rfl, rfl⟩ := trodAll_nil r0
  obtain rfl : args = #[v0] := by cases args; simp_all
  obtain ⟨ao, len, cap, rfl, hcode⟩ := open_code Try.underlying39 Try.underlying5 (by kernel_rfl) (hval 0 39 v0 rfl rfl) h0
  refine (reported_walk ao len cap W hcode).mono fun e W' ⟨he, hg⟩ => ?_
  subst he
  exact ⟨_, rfl, law_post laidOut reported_reads rfl rfl Try.underlying4 hW' (fun gs h => by subst h; rfl) hg⟩
theorem reported_over : Rows.fnReportedRow.holds Try.pinned (OpenSpec.ofChange Rows.fnReportedSpec) :=
  OpenClaim.holds_of_wide 5 Try.f5 rfl rfl rfl rfl rfl rfl rfl ⟨rfl, rfl, rfl, rfl, rfl⟩ rfl rfl rfl rfl rfl (by kernel_rfl) Try.func5 (by kernel_rfl)
    (of_decide_eq_true (by kernel_rfl)) (by unfold Func.isWrapper; first | (rw [if_pos (by decide +kernel)]; kernel_rfl) | (rw [if_neg (by decide +kernel)]; exact ⟨rfl, rfl⟩))
    (fun os started H enc _ => reported_lifted os started H enc)
/-- The statement. -/
theorem reported_holds : Rows.FnReportedSaid := reported_over
end
end Go.Proofs.Ytjhgcbchdnoleaa
