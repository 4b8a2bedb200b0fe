/-
  The law FnSenders holds of every code. No condition.
-/
import Derived.Deep.DeepCutAuto
import Derived.Test.YtjhgcbchdnoleaaPSnZqS
import Derived.Test.YtjhgcbchdnoleaaPSndEqqS
import Derived.Test.YtjhgcbchdnoleaaPAckResetqS
namespace Go.Proofs.Ytjhgcbchdnoleaa
section
open Go.ChangeShapes Go.WideShapes Go.ChangeAt Go.RowKit
set_option linter.unusedSimpArgs false
set_option linter.unusedVariables false
/-- What a step leaves is small. -/
structure SnSm (s : Sn) : Prop where
  x : s.xs.length ≤ 1000
  p : s.p.length ≤ 3000
  f : s.f.length ≤ 3000
  k : s.k.length ≤ 3000
  e : -1 ≤ s.e ∧ s.e ≤ 1000
theorem SnAny.sm {s : Sn} (h : SnAny s) : SnSm s := ⟨by have := h.len; omega, by have := h.p; omega, by have := h.f; omega, by have := h.k; omega, by have := h.e; omega⟩
theorem addR_len (l : List Rg) (r : Rg) : (addR l r).length ≤ l.length + 1 := by
  have := fold_len [r] l
  simpa using this
theorem sndEq_refl (s : Sn) : sndEq s.st s.z s.b s.e s.fi s.fk s.se s.co s.st s.z s.b s.e s.fi s.fk s.se s.co ⟨s.xs, s.p, s.f, s.k⟩ ⟨s.xs, s.p, s.f, s.k⟩ = true := by
  simp [sndEq, ringEq]
/-- Two readings of one sender are equal. -/
theorem eqs_same (s : Sn) (a g : Ads) (c1 c2 c3 c4 k1 k2 k3 k4 : Nat) (w : World) (hx : ReadSnd w a ⟨s.xs, s.p, s.f, s.k⟩) (hy : ReadSnd w g ⟨s.xs, s.p, s.f, s.k⟩) (h : SnSm s) :
    Calls Try.prog 18 #[.agg #[.int .i64 s.st, .int .i64 s.z, .int .i64 s.b, .int .i64 s.e, .slice a.r s.xs.length c1, .slice a.p s.p.length c2, .slice a.f s.f.length c3, .slice a.k s.k.length c4, .int .i64 s.fi, .int .i64 s.fk, .int .i64 s.se, .int .i64 s.co], .agg #[.int .i64 s.st, .int .i64 s.z, .int .i64 s.b, .int .i64 s.e, .slice g.r s.xs.length k1, .slice g.p s.p.length k2, .slice g.f s.f.length k3, .slice g.k s.k.length k4, .int .i64 s.fi, .int .i64 s.fk, .int .i64 s.se, .int .i64 s.co]] w fun en w' => en = .returned (.bool true) ∧ Ext w w' := by
  obtain ⟨ar, ap, af, ak⟩ := a
  obtain ⟨gr, gp, gf, gk⟩ := g
  have := EqualSenders_spec s.st s.z s.b s.e s.fi s.fk s.se s.co s.st s.z s.b s.e s.fi s.fk s.se s.co ar ap af ak c1 c2 c3 c4 gr gp gf gk k1 k2 k3 k4 s.xs s.p s.f s.k s.xs s.p s.f s.k w hx hy (by have := h.x; have := h.p; have := h.f; have := h.k; omega)
  rw [sndEq_refl] at this
  exact this
def sName (n : Int) : ByteArray := if n = 0 then ⟨#[114, 101, 97, 100, 121]⟩ else if n = 1 then ⟨#[115, 111, 109, 101]⟩ else if n = 2 then ⟨#[97, 108, 108]⟩ else if n = 3 then ⟨#[100, 111, 110, 101]⟩ else if n = 4 then ⟨#[114, 101, 115, 101, 116]⟩ else if n = 5 then ⟨#[114, 101, 115, 101, 116, 100, 111, 110, 101]⟩ else ⟨#[]⟩
theorem idx0 (s0 s1 s2 s3 s4 s5 : Value) (w : World) : (Instr.index 97 (.agg #[s0, s1, s2, s3, s4, s5]) (.int .i64 0)).run Try.prog w = .ok s0 w := by kernel_rfl
theorem idx1 (s0 s1 s2 s3 s4 s5 : Value) (w : World) : (Instr.index 97 (.agg #[s0, s1, s2, s3, s4, s5]) (.int .i64 1)).run Try.prog w = .ok s1 w := by kernel_rfl
theorem idx2 (s0 s1 s2 s3 s4 s5 : Value) (w : World) : (Instr.index 97 (.agg #[s0, s1, s2, s3, s4, s5]) (.int .i64 2)).run Try.prog w = .ok s2 w := by kernel_rfl
theorem idx3 (s0 s1 s2 s3 s4 s5 : Value) (w : World) : (Instr.index 97 (.agg #[s0, s1, s2, s3, s4, s5]) (.int .i64 3)).run Try.prog w = .ok s3 w := by kernel_rfl
theorem idx4 (s0 s1 s2 s3 s4 s5 : Value) (w : World) : (Instr.index 97 (.agg #[s0, s1, s2, s3, s4, s5]) (.int .i64 4)).run Try.prog w = .ok s4 w := by kernel_rfl
theorem idx5 (s0 s1 s2 s3 s4 s5 : Value) (w : World) : (Instr.index 97 (.agg #[s0, s1, s2, s3, s4, s5]) (.int .i64 5)).run Try.prog w = .ok s5 w := by kernel_rfl
theorem SendName_impl (n : Int) (w : World) (h : -1 ≤ n ∧ n ≤ 6) : Calls Try.prog 34 #[.int .i64 n] w fun en w' => en = .returned (.string (sName n)) ∧ Ext w w' := by
  rcases (show n = -1 ∨ n = 0 ∨ n = 1 ∨ n = 2 ∨ n = 3 ∨ n = 4 ∨ n = 5 ∨ n = 6 by omega) with rfl | rfl | rfl | rfl | rfl | rfl | rfl | rfl
  · skip
    go_enter Try.func34, Try.ntmps34
    go_wp2
    go_ret
    exact ⟨rfl, Ext.go⟩
  · skip
    have hi := idx0
    go_enter Try.func34, Try.ntmps34
    go_wp2
    go_ret
    exact ⟨rfl, Ext.go⟩
  · skip
    have hi := idx1
    go_enter Try.func34, Try.ntmps34
    go_wp2
    go_ret
    exact ⟨rfl, Ext.go⟩
  · skip
    have hi := idx2
    go_enter Try.func34, Try.ntmps34
    go_wp2
    go_ret
    exact ⟨rfl, Ext.go⟩
  · skip
    have hi := idx3
    go_enter Try.func34, Try.ntmps34
    go_wp2
    go_ret
    exact ⟨rfl, Ext.go⟩
  · skip
    have hi := idx4
    go_enter Try.func34, Try.ntmps34
    go_wp2
    go_ret
    exact ⟨rfl, Ext.go⟩
  · skip
    have hi := idx5
    go_enter Try.func34, Try.ntmps34
    go_wp2
    go_ret
    exact ⟨rfl, Ext.go⟩
  · skip
    go_enter Try.func34, Try.ntmps34
    go_wp2
    go_ret
    exact ⟨rfl, Ext.go⟩
theorem SendName_spec (n : Int) (w : World) (h : -1 ≤ n ∧ n ≤ 6) : Calls Try.prog 35 #[.int .i64 n] w fun en w' => en = .returned (.string (sName n)) ∧ Ext w w' := by
  rcases (show n = -1 ∨ n = 0 ∨ n = 1 ∨ n = 2 ∨ n = 3 ∨ n = 4 ∨ n = 5 ∨ n = 6 by omega) with rfl | rfl | rfl | rfl | rfl | rfl | rfl | rfl
  · skip
    go_enter Try.func35, Try.ntmps35
    go_wp2
    go_ret
    exact ⟨rfl, Ext.go⟩
  · skip
    go_enter Try.func35, Try.ntmps35
    go_wp2
    go_ret
    exact ⟨rfl, Ext.go⟩
  · skip
    go_enter Try.func35, Try.ntmps35
    go_wp2
    go_ret
    exact ⟨rfl, Ext.go⟩
  · skip
    go_enter Try.func35, Try.ntmps35
    go_wp2
    go_ret
    exact ⟨rfl, Ext.go⟩
  · skip
    go_enter Try.func35, Try.ntmps35
    go_wp2
    go_ret
    exact ⟨rfl, Ext.go⟩
  · skip
    go_enter Try.func35, Try.ntmps35
    go_wp2
    go_ret
    exact ⟨rfl, Ext.go⟩
  · skip
    go_enter Try.func35, Try.ntmps35
    go_wp2
    go_ret
    exact ⟨rfl, Ext.go⟩
  · skip
    go_enter Try.func35, Try.ntmps35
    go_wp2
    go_ret
    exact ⟨rfl, Ext.go⟩
theorem SnAny.wr {s : Sn} (h : SnAny s) (v : Bool) {d : ByteArray} (hd : (d.size : Int) ≤ 8) : SnSm (wrX v s d) ∧ 0 ≤ wrM v s d ∧ wrM v s d ≤ 8 := by
  have h1 := h.len
  have h2 := h.p
  have h3 := h.f
  have h4 := h.k
  have h5 := h.e
  have hn : (wrN s d : Int) ≤ 8 := by unfold wrN; omega
  unfold wrX wrM
  split
  · refine ⟨⟨?_, ?_, by show s.f.length ≤ 3000; omega, by show s.k.length ≤ 3000; omega, ?_⟩, by omega, hn⟩
    · show (setN s.xs s.z s.e (byteAt d) (wrN s d)).length ≤ 1000
      rw [setN_length]; omega
    · show (addR s.p (s.e, s.e + wrN s d)).length ≤ 3000
      have := addR_len s.p (s.e, s.e + wrN s d)
      omega
    · show -1 ≤ s.e + (wrN s d : Int) ∧ s.e + (wrN s d : Int) ≤ 1000
      omega
  · exact ⟨h.sm, by omega, by omega⟩
theorem any_wr {s : Sn} (h : SnAny s) (d : ByteArray) (hv : sndS s = true) : sndI (wrX (sndS s) s d) = true ∧ s.e + wrM (sndS s) s d = (wrX (sndS s) s d).e := by
  unfold wrX wrM
  split
  · rename_i hc
    obtain ⟨-, ⟨h0, h1⟩, hf⟩ := canW_iff.1 hc
    have hV := any_vld h (actV_iff.2 ⟨hv, by omega, by omega⟩)
    have hb := wrN_bd s d hV.hd.ring
    have he := h.e
    have hl := h.len
    have hr := isRing_bd hV.hd.ring
    exact ⟨(wr_act hV hf d).sndI (by show s.e + (wrN s d : Int) ≤ _; omega), rfl⟩
  · exact ⟨h.same.trans hv, by omega⟩
theorem SnAny.cl {s : Sn} (h : SnAny s) (v : Bool) : SnSm (clX v s) := by
  unfold clX
  split
  · exact ⟨h.sm.x, h.sm.p, h.sm.f, h.sm.k, h.sm.e⟩
  · exact h.sm
theorem any_cl {s : Sn} (h : SnAny s) (hc : canW (sndS s) s = true) : sndI (clX (sndS s) s) = true ∧ (clX (sndS s) s).fi = s.e ∧ canW (sndI (clX (sndS s) s)) (clX (sndS s) s) = false := by
  obtain ⟨hv, ⟨h0, h1⟩, hf⟩ := canW_iff.1 hc
  have hV := any_vld h (actV_iff.2 ⟨hv, by omega, by omega⟩)
  have he := h.e
  unfold clX
  rw [if_pos hc]
  refine ⟨(cl_act hV hf).sndI (by show s.e ≤ _; omega), rfl, ?_⟩
  rw [Bool.eq_false_iff]
  intro hh
  have := (canW_iff.1 hh).2.2
  have e : (clV s).fi = s.e := rfl
  omega
theorem SnAny.rs {s : Sn} (h : SnAny s) (v : Bool) (hv : actV v s = true → Vld s) (u : Int) : SnSm (rsX v s u) := by
  have h1 := h.len
  have h2 := h.se
  unfold rsX
  split
  · rename_i hc
    simp only [rsOk, Bool.and_eq_true] at hc
    have hr := isRing_bd (hv hc.1).hd.ring
    refine ⟨?_, by show 0 ≤ 3000; omega, by show 0 ≤ 3000; omega, by show 0 ≤ 3000; omega, by show -1 ≤ s.se ∧ s.se ≤ 1000; omega⟩
    show (List.replicate s.z.toNat (0 : Int)).length ≤ 1000
    rw [List.length_replicate]; omega
  · exact h.sm
theorem any_rs {s : Sn} (h : SnAny s) {u : Int} (hc : rsOk (sndS s) s u = true) : sndI (rsX (sndS s) s u) = true ∧ (rsX (sndS s) s u).fi = s.se := by
  have hc2 := hc
  simp only [rsOk, Bool.and_eq_true] at hc2
  have hb := inB_true hc2.2
  unfold rsX
  rw [if_pos hc]
  exact ⟨rs_snd (any_vld h hc2.1).hd hb.1 hb.2, rfl⟩
def arX (v : Bool) (s : Sn) : Sn := if v = true ∧ s.st = 4 then arV s else s
theorem SnAny.ar {s : Sn} (h : SnAny s) (v : Bool) : SnSm (arX v s) := by
  unfold arX
  split
  · exact ⟨h.sm.x, h.sm.p, h.sm.f, h.sm.k, h.sm.e⟩
  · exact h.sm
theorem nwSn_sm {n : Int} (h : n ≤ 128) : SnSm (nwSn n) := by
  unfold nwSn
  split
  · refine ⟨?_, by show 0 ≤ 3000; omega, by show 0 ≤ 3000; omega, by show 0 ≤ 3000; omega, by show -1 ≤ (0 : Int) ∧ (0 : Int) ≤ 1000; omega⟩
    show (List.replicate n.toNat (0 : Int)).length ≤ 1000
    rw [List.length_replicate]; omega
  · exact ⟨by decide, by decide, by decide, by decide, by decide⟩
set_option maxHeartbeats 8000000 in
set_option maxRecDepth 100000 in
theorem senders_walk (ao : Option Addr) (len cap : Nat) (w : World) (hc : len ≤ 1048576 → CodeAt w w.heap.size (.slice ao len cap)) :
    Calls Try.prog 4 #[.slice ao len cap] w fun e w' => e = .returned (.bool true) ∧ Ext w w' := by
  by_cases hbig : (1048576 : Int) < len
  · have hbd : decide ((1048576 : Int) < len) = true := decide_eq_true hbig
    go_enter Try.func4, Try.ntmps4
    go_wp2_with fail
    refine (big_any ao len cap _).mono ?_
    rintro e _ ⟨rfl, rfl⟩
    go_wp2
    go_ret
    exact ⟨rfl, Ext.refl _⟩
  have hbd : decide ((1048576 : Int) < len) = false := decide_eq_false hbig
  replace hc := hc (by omega)
  clear hbig
  go_enter Try.func4, Try.ntmps4
  go_wp2_with fail
  refine (big_any ao len cap _).mono ?_
  rintro e _ ⟨rfl, rfl⟩
  go_wp2_with fail
  refine (DrawWriteSender_any _ _ hc).mono ?_
  rintro en w1 ⟨s, a, c1, c2, c3, c4, d, rfl, hok, hd, hr, hw1⟩
  have qs0 := hok.len
  have qs1 := hok.p
  have qs2 := hok.f
  have qs3 := hok.k
  have qs4 := hok.e
  have hsm := hide hok.same
  replace hok := hide hok
  replace hr := hide hr
  obtain ⟨v, hv⟩ : ∃ v, Hid (sndS s = v) := ⟨_, hide rfl⟩
  have zw1 := hw1.size
  (try simp at zw1)
  replace hw1 : Ext w w1 := Ext.trans Ext.go hw1
  have xw1 : Hid (Ext w w1) := hide (Ext.trans Ext.go hw1)
  go_wp2_with fail
  refine (WriteSender_impl s a c1 c2 c3 c4 d _ (hr.out.ext Ext.go) (by omega) (by omega) (by omega) (by omega)).mono ?_
  rintro en w2 ⟨g1, g2, g3, g4, k1, k2, k3, k4, rfl, owng, hw2⟩
  rw [hsm.out] at owng ⊢
  obtain ⟨htm, hM0, hM1⟩ := hok.out.wr (sndS s) hd
  have hvl := hide (fun (h : sndS s = true) => any_wr hok.out d h)
  obtain ⟨t, ht⟩ : ∃ t, Hid (wrX (sndS s) s d = t) := ⟨_, hide rfl⟩
  obtain ⟨M, hM⟩ : ∃ t, Hid (wrM (sndS s) s d = t) := ⟨_, hide rfl⟩
  rw [ht.out] at owng htm hvl ⊢
  rw [hM.out] at hM0 hM1 hvl ⊢
  rw [hv.out] at hvl
  replace htm := hide htm
  have hg := hide owng.read
  clear owng
  have zw2 := hw2.size
  (try simp at zw2)
  have bb_s := hide (BoxV.ext (BoxV.new w1 [.int .i64 s.st, .int .i64 s.z, .int .i64 s.b, .int .i64 s.e, .slice a.r s.xs.length c1, .slice a.p s.p.length c2, .slice a.f s.f.length c3, .slice a.k s.k.length c4, .int .i64 s.fi, .int .i64 s.fk, .int .i64 s.se, .int .i64 s.co] 32) (Ext.trans Ext.go hw2))
  replace hw2 : Ext w1 w2 := Ext.trans Ext.go hw2
  have xw2 : Hid (Ext w w2) := hide (Ext.trans Ext.go hw2)
  have ns := bb_s.out
  obtain ⟨cs0, cs1, cs2, cs3, cs4, cs5, cs6, cs7, cs8, cs9, cs10, cs11, -, ks⟩ := BoxV.a12 ns
  clear ns
  go_wp2_with fail
  refine (WriteSender_spec s a c1 c2 c3 c4 d _ (hr.out.ext Ext.go) (by omega) (by omega) (by omega) (by omega)).mono ?_
  rintro en w3 ⟨e1, e2, e3, e4, n1, n2, n3, n4, rfl, owne, hw3⟩
  rw [ht.out] at owne ⊢
  rw [hM.out]
  have he := hide owne.read
  clear owne
  obtain ⟨m1, m2, m3, m4, m5⟩ := htm.out
  have zw3 := hw3.size
  (try simp at zw3)
  have bb_x := hide (BoxV.ext (BoxV.new w2 [.int .i64 t.st, .int .i64 t.z, .int .i64 t.b, .int .i64 t.e, .slice g1 t.xs.length k1, .slice g2 t.p.length k2, .slice g3 t.f.length k3, .slice g4 t.k.length k4, .int .i64 t.fi, .int .i64 t.fk, .int .i64 t.se, .int .i64 t.co] 32) (Ext.trans Ext.go hw3))
  replace hw3 : Ext w2 w3 := Ext.trans Ext.go hw3
  have xw3 : Hid (Ext w w3) := hide (Ext.trans Ext.go hw3)
  clear cs0 cs1 cs2 cs3 cs4 cs5 cs6 cs7 cs8 cs9 cs10 cs11 ks
  go_upto_region 6 with fail
  obtain ⟨w4, h0w4⟩ : ∃ u, u = (w3.alloc (.cells #[.int .i64 t.st, .int .i64 t.z, .int .i64 t.b, .int .i64 t.e, .slice e1 t.xs.length n1, .slice e2 t.p.length n2, .slice e3 t.f.length n3, .slice e4 t.k.length n4, .int .i64 t.fi, .int .i64 t.fk, .int .i64 t.se, .int .i64 t.co] 32)) := ⟨_, rfl⟩
  rw [← h0w4]
  have hw4 : Ext (w3.alloc (.cells #[.int .i64 t.st, .int .i64 t.z, .int .i64 t.b, .int .i64 t.e, .slice e1 t.xs.length n1, .slice e2 t.p.length n2, .slice e3 t.f.length n3, .slice e4 t.k.length n4, .int .i64 t.fi, .int .i64 t.fk, .int .i64 t.se, .int .i64 t.co] 32)) w4 := h0w4 ▸ Ext.refl _
  clear h0w4
  have zw4 := hw4.size
  (try simp at zw4)
  have bb_y := hide (BoxV.ext (BoxV.new w3 [.int .i64 t.st, .int .i64 t.z, .int .i64 t.b, .int .i64 t.e, .slice e1 t.xs.length n1, .slice e2 t.p.length n2, .slice e3 t.f.length n3, .slice e4 t.k.length n4, .int .i64 t.fi, .int .i64 t.fk, .int .i64 t.se, .int .i64 t.co] 32) (Ext.trans Ext.go hw4))
  replace hw4 : Ext w3 w4 := Ext.trans Ext.go hw4
  have xw4 : Hid (Ext w w4) := hide (Ext.trans Ext.go hw4)
  go_cut [91] (fun tq wx => tq = .bool false ∧ Ext w4 wx)
  case first =>
    as_aux_lemma =>
      cases v
      · skip
        as_aux_lemma =>
          have ns := bb_s.out.ext (show Ext w2 w4 from Ext.go)
          obtain ⟨cs0, cs1, cs2, cs3, cs4, cs5, cs6, cs7, cs8, cs9, cs10, cs11, -, ks⟩ := BoxV.a12 ns
          clear ns
          have nx := bb_x.out.ext (show Ext w3 w4 from Ext.go)
          obtain ⟨cx0, cx1, cx2, cx3, cx4, cx5, cx6, cx7, cx8, cx9, cx10, cx11, -, kx⟩ := BoxV.a12 nx
          clear nx
          have ny := bb_y.out
          obtain ⟨cy0, cy1, cy2, cy3, cy4, cy5, cy6, cy7, cy8, cy9, cy10, cy11, -, ky⟩ := BoxV.a12 ny
          clear ny
          go_wp2_with fail
          refine wp_region_flowE 32 [(0, 1), (1, 1), (2, 1), (3, 1), (4, 1), (5, 1), (6, 0), (7, 1), (8, 1), (9, 1), (10, 1), (12, 1), (11, 0), (13, 0), (14, 1), (15, 1), (16, 1), (17, 1), (18, 0), (19, 1), (20, 1), (21, 0), (22, 1), (23, 1), (24, 1), (25, 1), (26, 1), (27, 1), (28, 1), (29, 1), (30, 1), (31, 1)] (by kernel_rfl) (by kernel_rfl) ?_
          iterate 4 ((refine wpF_pure (v := ?_) rfl rfl (by rfl) ?_ ?_; rotate_left; (focus (intro ws hws; go_simp; (try with_reducible rfl); done))); try simp only [nrm, nrg])
          (refine wpF_pure (v := ?_) rfl rfl (by rfl) ?_ ?_; rotate_left; (focus (intro ws hws; obtain ⟨q0, p0⟩ := hws.row (k := w2.heap.size) xpf; go_simp; (try with_reducible rfl); done)))
          try simp only [nrm, nrg]
          (refine wpF_pure (v := ?_) rfl rfl (by rfl) ?_ ?_; rotate_left; (focus (intro ws hws; obtain ⟨q0, p0⟩ := hws.row (k := w3.heap.size) xpf; go_simp; (try with_reducible rfl); done)))
          try simp only [nrm, nrg]
          (refine wpF_call 18 ?_ rfl rfl (by rfl) ?_ ?_; rotate_left; (focus (go_simp; (try with_reducible rfl); done)))
          refine (eqs_same t ⟨g1, g2, g3, g4⟩ ⟨e1, e2, e3, e4⟩ k1 k2 k3 k4 n1 n2 n3 n4 _ (hg.out.ext Ext.go) (he.out.ext Ext.go) htm.out).mono ?_
          rintro en u5 ⟨rfl, hu5⟩
          refine ⟨_, rfl, hu5, ?_⟩
          try simp only [nrm, nrg]
          have zu5 := hu5.size
          (try simp at zu5)
          replace hu5 : Ext w4 u5 := Ext.trans Ext.go hu5
          have xu5 : Hid (Ext w u5) := hide (Ext.trans Ext.go hu5)
          clear cs0 cs1 cs2 cs3 cs4 cs5 cs6 cs7 cs8 cs9 cs10 cs11 ks cx0 cx1 cx2 cx3 cx4 cx5 cx6 cx7 cx8 cx9 cx10 cx11 kx cy0 cy1 cy2 cy3 cy4 cy5 cy6 cy7 cy8 cy9 cy10 cy11 ky
          have ns := bb_s.out.ext (show Ext w2 u5 from Ext.go)
          obtain ⟨cs0, cs1, cs2, cs3, cs4, cs5, cs6, cs7, cs8, cs9, cs10, cs11, -, ks⟩ := BoxV.a12 ns
          clear ns
          have nx := bb_x.out.ext (show Ext w3 u5 from Ext.go)
          obtain ⟨cx0, cx1, cx2, cx3, cx4, cx5, cx6, cx7, cx8, cx9, cx10, cx11, -, kx⟩ := BoxV.a12 nx
          clear nx
          have ny := bb_y.out.ext (show Ext w4 u5 from Ext.go)
          obtain ⟨cy0, cy1, cy2, cy3, cy4, cy5, cy6, cy7, cy8, cy9, cy10, cy11, -, ky⟩ := BoxV.a12 ny
          clear ny
          iterate 3 ((refine wpF_pure (v := ?_) rfl rfl (by rfl) ?_ ?_; rotate_left; (focus (intro ws hws; go_simp; (try with_reducible rfl); done))); try simp only [nrm, nrg])
          iterate 2 ((refine wpF_pure (v := ?_) rfl rfl (by rfl) ?_ ?_; rotate_left; (focus (intro ws hws; obtain ⟨q0, p0⟩ := hws.row (k := w1.heap.size) xpf; go_simp; (try with_reducible rfl); done))); try simp only [nrm, nrg])
          (refine wpF_call 19 ?_ rfl rfl (by rfl) ?_ ?_; rotate_left; (focus (go_simp; (try with_reducible rfl); done)))
          refine (IsSender_impl s a c1 c2 c3 c4 _ (hr.out.ext Ext.go) (by omega) (by omega)).mono ?_
          rintro en u6 ⟨rfl, hu6⟩
          refine ⟨_, rfl, hu6, ?_⟩
          try simp only [nrm, nrg]
          rw [hsm.out, hv.out]
          have zu6 := hu6.size
          (try simp at zu6)
          replace hu6 : Ext u5 u6 := Ext.trans Ext.go hu6
          have xu6 : Hid (Ext w u6) := hide (Ext.trans Ext.go hu6)
          clear cs0 cs1 cs2 cs3 cs4 cs5 cs6 cs7 cs8 cs9 cs10 cs11 ks cx0 cx1 cx2 cx3 cx4 cx5 cx6 cx7 cx8 cx9 cx10 cx11 kx cy0 cy1 cy2 cy3 cy4 cy5 cy6 cy7 cy8 cy9 cy10 cy11 ky
          have ns := bb_s.out.ext (show Ext w2 u6 from Ext.go)
          obtain ⟨cs0, cs1, cs2, cs3, cs4, cs5, cs6, cs7, cs8, cs9, cs10, cs11, -, ks⟩ := BoxV.a12 ns
          clear ns
          have nx := bb_x.out.ext (show Ext w3 u6 from Ext.go)
          obtain ⟨cx0, cx1, cx2, cx3, cx4, cx5, cx6, cx7, cx8, cx9, cx10, cx11, -, kx⟩ := BoxV.a12 nx
          clear nx
          have ny := bb_y.out.ext (show Ext w4 u6 from Ext.go)
          obtain ⟨cy0, cy1, cy2, cy3, cy4, cy5, cy6, cy7, cy8, cy9, cy10, cy11, -, ky⟩ := BoxV.a12 ny
          clear ny
          (refine wpF_call 20 ?_ rfl rfl (by rfl) ?_ ?_; rotate_left; (focus (go_simp; (try with_reducible rfl); done)))
          refine (IsSender_spec s a c1 c2 c3 c4 _ (hr.out.ext Ext.go) (by omega) (by omega) (by omega)).mono ?_
          rintro en u7 ⟨rfl, hu7⟩
          refine ⟨_, rfl, hu7, ?_⟩
          try simp only [nrm, nrg]
          rw [hv.out]
          have zu7 := hu7.size
          (try simp at zu7)
          replace hu7 : Ext u6 u7 := Ext.trans Ext.go hu7
          have xu7 : Hid (Ext w u7) := hide (Ext.trans Ext.go hu7)
          clear cs0 cs1 cs2 cs3 cs4 cs5 cs6 cs7 cs8 cs9 cs10 cs11 ks cx0 cx1 cx2 cx3 cx4 cx5 cx6 cx7 cx8 cx9 cx10 cx11 kx cy0 cy1 cy2 cy3 cy4 cy5 cy6 cy7 cy8 cy9 cy10 cy11 ky
          have ns := bb_s.out.ext (show Ext w2 u7 from Ext.go)
          obtain ⟨cs0, cs1, cs2, cs3, cs4, cs5, cs6, cs7, cs8, cs9, cs10, cs11, -, ks⟩ := BoxV.a12 ns
          clear ns
          have nx := bb_x.out.ext (show Ext w3 u7 from Ext.go)
          obtain ⟨cx0, cx1, cx2, cx3, cx4, cx5, cx6, cx7, cx8, cx9, cx10, cx11, -, kx⟩ := BoxV.a12 nx
          clear nx
          have ny := bb_y.out.ext (show Ext w4 u7 from Ext.go)
          obtain ⟨cy0, cy1, cy2, cy3, cy4, cy5, cy6, cy7, cy8, cy9, cy10, cy11, -, ky⟩ := BoxV.a12 ny
          clear ny
          iterate 3 ((refine wpF_pure (v := ?_) rfl rfl (by rfl) ?_ ?_; rotate_left; (focus (intro ws hws; go_simp; (try with_reducible rfl); done))); try simp only [nrm, nrg])
          (refine wpF_pure (v := ?_) rfl rfl (by rfl) ?_ ?_; rotate_left; (focus (intro ws hws; obtain ⟨q0, p0⟩ := hws.row (k := w1.heap.size) xpf; go_simp; (try with_reducible rfl); done)))
          try simp only [nrm, nrg]
          (refine wpF_call 20 ?_ rfl rfl (by rfl) ?_ ?_; rotate_left; (focus (go_simp; (try with_reducible rfl); done)))
          refine (IsSender_spec s a c1 c2 c3 c4 _ (hr.out.ext Ext.go) (by omega) (by omega) (by omega)).mono ?_
          rintro en u8 ⟨rfl, hu8⟩
          refine ⟨_, rfl, hu8, ?_⟩
          try simp only [nrm, nrg]
          rw [hv.out]
          have zu8 := hu8.size
          (try simp at zu8)
          replace hu8 : Ext u7 u8 := Ext.trans Ext.go hu8
          have xu8 : Hid (Ext w u8) := hide (Ext.trans Ext.go hu8)
          clear cs0 cs1 cs2 cs3 cs4 cs5 cs6 cs7 cs8 cs9 cs10 cs11 ks cx0 cx1 cx2 cx3 cx4 cx5 cx6 cx7 cx8 cx9 cx10 cx11 kx cy0 cy1 cy2 cy3 cy4 cy5 cy6 cy7 cy8 cy9 cy10 cy11 ky
          have ns := bb_s.out.ext (show Ext w2 u8 from Ext.go)
          obtain ⟨cs0, cs1, cs2, cs3, cs4, cs5, cs6, cs7, cs8, cs9, cs10, cs11, -, ks⟩ := BoxV.a12 ns
          clear ns
          have nx := bb_x.out.ext (show Ext w3 u8 from Ext.go)
          obtain ⟨cx0, cx1, cx2, cx3, cx4, cx5, cx6, cx7, cx8, cx9, cx10, cx11, -, kx⟩ := BoxV.a12 nx
          clear nx
          have ny := bb_y.out.ext (show Ext w4 u8 from Ext.go)
          obtain ⟨cy0, cy1, cy2, cy3, cy4, cy5, cy6, cy7, cy8, cy9, cy10, cy11, -, ky⟩ := BoxV.a12 ny
          clear ny
          (refine wpF_pure (v := ?_) rfl rfl (by rfl) ?_ ?_; rotate_left; (focus (intro ws hws; go_simp; (try with_reducible rfl); done)))
          try simp only [nrm, nrg]
          refine wpF_off rfl rfl (by rfl) ?_
          try simp only [nrm, nrg]
          refine wpF_offS rfl rfl (by rfl) ?_
          try simp only [nrm, nrg]
          refine wpF_off rfl rfl (by rfl) ?_
          try simp only [nrm, nrg]
          refine wpF_off rfl rfl (by rfl) ?_
          try simp only [nrm, nrg]
          refine wpF_off rfl rfl (by rfl) ?_
          try simp only [nrm, nrg]
          refine wpF_off rfl rfl (by rfl) ?_
          try simp only [nrm, nrg]
          refine wpF_off rfl rfl (by rfl) ?_
          try simp only [nrm, nrg]
          refine wpF_off rfl rfl (by rfl) ?_
          try simp only [nrm, nrg]
          refine wpF_off rfl rfl (by rfl) ?_
          try simp only [nrm, nrg]
          refine wpF_off rfl rfl (by rfl) ?_
          try simp only [nrm, nrg]
          refine wpF_off rfl rfl (by rfl) ?_
          try simp only [nrm, nrg]
          refine wpF_off rfl rfl (by rfl) ?_
          try simp only [nrm, nrg]
          refine wpF_done rfl ?_
          simp only [List.drop_succ_cons, List.drop_zero, List.drop_nil]
          go_wp2_with fail
          go_meet
          exact ⟨rfl, Ext.go⟩
      · skip
        as_aux_lemma =>
          obtain ⟨hv1, hv2⟩ := hvl.out rfl
          have hwe : IntKind.i64.wrap (s.e + M) = t.e := by rw [hv2]; exact IntWalk.i64_in _ (by omega)
          replace hv1 := hide hv1
          clear hv2
          have ns := bb_s.out.ext (show Ext w2 w4 from Ext.go)
          obtain ⟨cs0, cs1, cs2, cs3, cs4, cs5, cs6, cs7, cs8, cs9, cs10, cs11, -, ks⟩ := BoxV.a12 ns
          clear ns
          have nx := bb_x.out.ext (show Ext w3 w4 from Ext.go)
          obtain ⟨cx0, cx1, cx2, cx3, cx4, cx5, cx6, cx7, cx8, cx9, cx10, cx11, -, kx⟩ := BoxV.a12 nx
          clear nx
          have ny := bb_y.out
          obtain ⟨cy0, cy1, cy2, cy3, cy4, cy5, cy6, cy7, cy8, cy9, cy10, cy11, -, ky⟩ := BoxV.a12 ny
          clear ny
          go_wp2_with fail
          refine wp_region_flowE 32 [(0, 1), (1, 1), (2, 1), (3, 1), (4, 1), (5, 1), (6, 0), (7, 1), (8, 1), (9, 1), (10, 1), (12, 1), (11, 0), (13, 0), (14, 1), (15, 1), (16, 1), (17, 1), (18, 0), (19, 1), (20, 1), (21, 0), (22, 1), (23, 1), (24, 1), (25, 1), (26, 1), (27, 1), (28, 1), (29, 1), (30, 1), (31, 1)] (by kernel_rfl) (by kernel_rfl) ?_
          iterate 4 ((refine wpF_pure (v := ?_) rfl rfl (by rfl) ?_ ?_; rotate_left; (focus (intro ws hws; go_simp; (try with_reducible rfl); done))); try simp only [nrm, nrg])
          (refine wpF_pure (v := ?_) rfl rfl (by rfl) ?_ ?_; rotate_left; (focus (intro ws hws; obtain ⟨q0, p0⟩ := hws.row (k := w2.heap.size) xpf; go_simp; (try with_reducible rfl); done)))
          try simp only [nrm, nrg]
          (refine wpF_pure (v := ?_) rfl rfl (by rfl) ?_ ?_; rotate_left; (focus (intro ws hws; obtain ⟨q0, p0⟩ := hws.row (k := w3.heap.size) xpf; go_simp; (try with_reducible rfl); done)))
          try simp only [nrm, nrg]
          (refine wpF_call 18 ?_ rfl rfl (by rfl) ?_ ?_; rotate_left; (focus (go_simp; (try with_reducible rfl); done)))
          refine (eqs_same t ⟨g1, g2, g3, g4⟩ ⟨e1, e2, e3, e4⟩ k1 k2 k3 k4 n1 n2 n3 n4 _ (hg.out.ext Ext.go) (he.out.ext Ext.go) htm.out).mono ?_
          rintro en v5 ⟨rfl, hv5⟩
          refine ⟨_, rfl, hv5, ?_⟩
          try simp only [nrm, nrg]
          have zv5 := hv5.size
          (try simp at zv5)
          replace hv5 : Ext w4 v5 := Ext.trans Ext.go hv5
          have xv5 : Hid (Ext w v5) := hide (Ext.trans Ext.go hv5)
          clear cs0 cs1 cs2 cs3 cs4 cs5 cs6 cs7 cs8 cs9 cs10 cs11 ks cx0 cx1 cx2 cx3 cx4 cx5 cx6 cx7 cx8 cx9 cx10 cx11 kx cy0 cy1 cy2 cy3 cy4 cy5 cy6 cy7 cy8 cy9 cy10 cy11 ky
          have ns := bb_s.out.ext (show Ext w2 v5 from Ext.go)
          obtain ⟨cs0, cs1, cs2, cs3, cs4, cs5, cs6, cs7, cs8, cs9, cs10, cs11, -, ks⟩ := BoxV.a12 ns
          clear ns
          have nx := bb_x.out.ext (show Ext w3 v5 from Ext.go)
          obtain ⟨cx0, cx1, cx2, cx3, cx4, cx5, cx6, cx7, cx8, cx9, cx10, cx11, -, kx⟩ := BoxV.a12 nx
          clear nx
          have ny := bb_y.out.ext (show Ext w4 v5 from Ext.go)
          obtain ⟨cy0, cy1, cy2, cy3, cy4, cy5, cy6, cy7, cy8, cy9, cy10, cy11, -, ky⟩ := BoxV.a12 ny
          clear ny
          iterate 3 ((refine wpF_pure (v := ?_) rfl rfl (by rfl) ?_ ?_; rotate_left; (focus (intro ws hws; go_simp; (try with_reducible rfl); done))); try simp only [nrm, nrg])
          iterate 2 ((refine wpF_pure (v := ?_) rfl rfl (by rfl) ?_ ?_; rotate_left; (focus (intro ws hws; obtain ⟨q0, p0⟩ := hws.row (k := w1.heap.size) xpf; go_simp; (try with_reducible rfl); done))); try simp only [nrm, nrg])
          (refine wpF_call 19 ?_ rfl rfl (by rfl) ?_ ?_; rotate_left; (focus (go_simp; (try with_reducible rfl); done)))
          refine (IsSender_impl s a c1 c2 c3 c4 _ (hr.out.ext Ext.go) (by omega) (by omega)).mono ?_
          rintro en v6 ⟨rfl, hv6⟩
          refine ⟨_, rfl, hv6, ?_⟩
          try simp only [nrm, nrg]
          rw [hsm.out, hv.out]
          have zv6 := hv6.size
          (try simp at zv6)
          replace hv6 : Ext v5 v6 := Ext.trans Ext.go hv6
          have xv6 : Hid (Ext w v6) := hide (Ext.trans Ext.go hv6)
          clear cs0 cs1 cs2 cs3 cs4 cs5 cs6 cs7 cs8 cs9 cs10 cs11 ks cx0 cx1 cx2 cx3 cx4 cx5 cx6 cx7 cx8 cx9 cx10 cx11 kx cy0 cy1 cy2 cy3 cy4 cy5 cy6 cy7 cy8 cy9 cy10 cy11 ky
          have ns := bb_s.out.ext (show Ext w2 v6 from Ext.go)
          obtain ⟨cs0, cs1, cs2, cs3, cs4, cs5, cs6, cs7, cs8, cs9, cs10, cs11, -, ks⟩ := BoxV.a12 ns
          clear ns
          have nx := bb_x.out.ext (show Ext w3 v6 from Ext.go)
          obtain ⟨cx0, cx1, cx2, cx3, cx4, cx5, cx6, cx7, cx8, cx9, cx10, cx11, -, kx⟩ := BoxV.a12 nx
          clear nx
          have ny := bb_y.out.ext (show Ext w4 v6 from Ext.go)
          obtain ⟨cy0, cy1, cy2, cy3, cy4, cy5, cy6, cy7, cy8, cy9, cy10, cy11, -, ky⟩ := BoxV.a12 ny
          clear ny
          (refine wpF_call 20 ?_ rfl rfl (by rfl) ?_ ?_; rotate_left; (focus (go_simp; (try with_reducible rfl); done)))
          refine (IsSender_spec s a c1 c2 c3 c4 _ (hr.out.ext Ext.go) (by omega) (by omega) (by omega)).mono ?_
          rintro en v7 ⟨rfl, hv7⟩
          refine ⟨_, rfl, hv7, ?_⟩
          try simp only [nrm, nrg]
          rw [hv.out]
          have zv7 := hv7.size
          (try simp at zv7)
          replace hv7 : Ext v6 v7 := Ext.trans Ext.go hv7
          have xv7 : Hid (Ext w v7) := hide (Ext.trans Ext.go hv7)
          clear cs0 cs1 cs2 cs3 cs4 cs5 cs6 cs7 cs8 cs9 cs10 cs11 ks cx0 cx1 cx2 cx3 cx4 cx5 cx6 cx7 cx8 cx9 cx10 cx11 kx cy0 cy1 cy2 cy3 cy4 cy5 cy6 cy7 cy8 cy9 cy10 cy11 ky
          have ns := bb_s.out.ext (show Ext w2 v7 from Ext.go)
          obtain ⟨cs0, cs1, cs2, cs3, cs4, cs5, cs6, cs7, cs8, cs9, cs10, cs11, -, ks⟩ := BoxV.a12 ns
          clear ns
          have nx := bb_x.out.ext (show Ext w3 v7 from Ext.go)
          obtain ⟨cx0, cx1, cx2, cx3, cx4, cx5, cx6, cx7, cx8, cx9, cx10, cx11, -, kx⟩ := BoxV.a12 nx
          clear nx
          have ny := bb_y.out.ext (show Ext w4 v7 from Ext.go)
          obtain ⟨cy0, cy1, cy2, cy3, cy4, cy5, cy6, cy7, cy8, cy9, cy10, cy11, -, ky⟩ := BoxV.a12 ny
          clear ny
          iterate 3 ((refine wpF_pure (v := ?_) rfl rfl (by rfl) ?_ ?_; rotate_left; (focus (intro ws hws; go_simp; (try with_reducible rfl); done))); try simp only [nrm, nrg])
          (refine wpF_pure (v := ?_) rfl rfl (by rfl) ?_ ?_; rotate_left; (focus (intro ws hws; obtain ⟨q0, p0⟩ := hws.row (k := w1.heap.size) xpf; go_simp; (try with_reducible rfl); done)))
          try simp only [nrm, nrg]
          (refine wpF_call 20 ?_ rfl rfl (by rfl) ?_ ?_; rotate_left; (focus (go_simp; (try with_reducible rfl); done)))
          refine (IsSender_spec s a c1 c2 c3 c4 _ (hr.out.ext Ext.go) (by omega) (by omega) (by omega)).mono ?_
          rintro en v8 ⟨rfl, hv8⟩
          refine ⟨_, rfl, hv8, ?_⟩
          try simp only [nrm, nrg]
          rw [hv.out]
          have zv8 := hv8.size
          (try simp at zv8)
          replace hv8 : Ext v7 v8 := Ext.trans Ext.go hv8
          have xv8 : Hid (Ext w v8) := hide (Ext.trans Ext.go hv8)
          clear cs0 cs1 cs2 cs3 cs4 cs5 cs6 cs7 cs8 cs9 cs10 cs11 ks cx0 cx1 cx2 cx3 cx4 cx5 cx6 cx7 cx8 cx9 cx10 cx11 kx cy0 cy1 cy2 cy3 cy4 cy5 cy6 cy7 cy8 cy9 cy10 cy11 ky
          have ns := bb_s.out.ext (show Ext w2 v8 from Ext.go)
          obtain ⟨cs0, cs1, cs2, cs3, cs4, cs5, cs6, cs7, cs8, cs9, cs10, cs11, -, ks⟩ := BoxV.a12 ns
          clear ns
          have nx := bb_x.out.ext (show Ext w3 v8 from Ext.go)
          obtain ⟨cx0, cx1, cx2, cx3, cx4, cx5, cx6, cx7, cx8, cx9, cx10, cx11, -, kx⟩ := BoxV.a12 nx
          clear nx
          have ny := bb_y.out.ext (show Ext w4 v8 from Ext.go)
          obtain ⟨cy0, cy1, cy2, cy3, cy4, cy5, cy6, cy7, cy8, cy9, cy10, cy11, -, ky⟩ := BoxV.a12 ny
          clear ny
          (refine wpF_pure (v := ?_) rfl rfl (by rfl) ?_ ?_; rotate_left; (focus (intro ws hws; go_simp; (try with_reducible rfl); done)))
          try simp only [nrm, nrg]
          (refine wpF_pure (v := ?_) rfl rfl (by rfl) ?_ ?_; rotate_left; (focus (intro ws hws; obtain ⟨q0, p0⟩ := hws.row (k := w3.heap.size) xpf; go_simp; (try with_reducible rfl); done)))
          try simp only [nrm, nrg]
          (refine wpF_call 19 ?_ rfl rfl (by rfl) ?_ ?_; rotate_left; (focus (go_simp; (try with_reducible rfl); done)))
          refine (IsSender_impl t ⟨e1, e2, e3, e4⟩ n1 n2 n3 n4 _ (he.out.ext Ext.go) (by omega) (by omega)).mono ?_
          rintro en v9 ⟨rfl, hv9⟩
          refine ⟨_, rfl, hv9, ?_⟩
          try simp only [nrm, nrg]
          rw [hv1.out]
          have zv9 := hv9.size
          (try simp at zv9)
          replace hv9 : Ext v8 v9 := Ext.trans Ext.go hv9
          have xv9 : Hid (Ext w v9) := hide (Ext.trans Ext.go hv9)
          clear cs0 cs1 cs2 cs3 cs4 cs5 cs6 cs7 cs8 cs9 cs10 cs11 ks cx0 cx1 cx2 cx3 cx4 cx5 cx6 cx7 cx8 cx9 cx10 cx11 kx cy0 cy1 cy2 cy3 cy4 cy5 cy6 cy7 cy8 cy9 cy10 cy11 ky
          have ns := bb_s.out.ext (show Ext w2 v9 from Ext.go)
          obtain ⟨cs0, cs1, cs2, cs3, cs4, cs5, cs6, cs7, cs8, cs9, cs10, cs11, -, ks⟩ := BoxV.a12 ns
          clear ns
          have nx := bb_x.out.ext (show Ext w3 v9 from Ext.go)
          obtain ⟨cx0, cx1, cx2, cx3, cx4, cx5, cx6, cx7, cx8, cx9, cx10, cx11, -, kx⟩ := BoxV.a12 nx
          clear nx
          have ny := bb_y.out.ext (show Ext w4 v9 from Ext.go)
          obtain ⟨cy0, cy1, cy2, cy3, cy4, cy5, cy6, cy7, cy8, cy9, cy10, cy11, -, ky⟩ := BoxV.a12 ny
          clear ny
          iterate 4 ((refine wpF_pure (v := ?_) rfl rfl (by rfl) ?_ ?_; rotate_left; (focus (intro ws hws; go_simp; (try with_reducible rfl); done))); try simp only [nrm, nrg])
          (refine wpF_pure (v := ?_) rfl rfl (by rfl) ?_ ?_; rotate_left; (focus (intro ws hws; obtain ⟨q0, p0⟩ := hws.row (k := w3.heap.size) xpf; go_simp; (try with_reducible rfl); done)))
          try simp only [nrm, nrg]
          iterate 2 ((refine wpF_pure (v := ?_) rfl rfl (by rfl) ?_ ?_; rotate_left; (focus (intro ws hws; go_simp; (try with_reducible rfl); done))); try simp only [nrm, nrg])
          (refine wpF_pure (v := ?_) rfl rfl (by rfl) ?_ ?_; rotate_left; (focus (intro ws hws; obtain ⟨q0, p0⟩ := hws.row (k := w1.heap.size) xpf; go_simp; (try with_reducible rfl); done)))
          try simp only [nrm, nrg]
          iterate 2 ((refine wpF_pure (v := ?_) rfl rfl (by rfl) ?_ ?_; rotate_left; (focus (intro ws hws; go_simp; (try with_reducible rfl); done))); try simp only [nrm, nrg])
          refine wpF_done rfl ?_
          simp only [List.drop_succ_cons, List.drop_zero, List.drop_nil]
          go_wp2_with fail
          go_meet
          exact ⟨rfl, Ext.go⟩
  case rest =>
    obtain ⟨rfl, hcut⟩ := hcut
    obtain ⟨wa, hwe⟩ : ∃ u, u = wc := ⟨_, rfl⟩
    subst hwe
    have hwa := hcut
    clear hcut
    have zwa := hwa.size
    (try simp at zwa)
    replace hwa : Ext w4 wa := Ext.trans Ext.go hwa
    have xwa : Hid (Ext w wa) := hide (Ext.trans Ext.go hwa)
    as_aux_lemma =>
      go_wp2_with fail
      refine (DrawCloseSender_any _ _ (hc.grown Ext.go)).mono ?_
      rintro en b5 ⟨s2, a2, c5, c6, c7, c8, rfl, hok2, hr2, hb5⟩
      have qt0 := hok2.len
      have qt1 := hok2.p
      have qt2 := hok2.f
      have qt3 := hok2.k
      have qt4 := hok2.e
      have hsm2 := hide hok2.same
      replace hok2 := hide hok2
      replace hr2 := hide hr2
      have zb5 := hb5.size
      (try simp at zb5)
      replace hb5 : Ext wa b5 := Ext.trans Ext.go hb5
      have xb5 : Hid (Ext w b5) := hide (Ext.trans Ext.go hb5)
      go_wp2_with fail
      refine (CloseSender_impl s2 a2 c5 c6 c7 c8 _ (hr2.out.ext Ext.go) (by omega) (by omega) (by omega)).mono ?_
      rintro en b6 ⟨b1, b2, b3, b4, l1, l2, l3, l4, rfl, ownb, hb6⟩
      rw [hsm2.out] at ownb ⊢
      have htm2 := hide (hok2.out.cl (sndS s2))
      have hvl2 := hide (fun (h : canW (sndS s2) s2 = true) => any_cl hok2.out h)
      obtain ⟨t2, ht2⟩ : ∃ t, Hid (clX (sndS s2) s2 = t) := ⟨_, hide rfl⟩
      obtain ⟨is, hI⟩ : ∃ t, Hid (canW (sndS s2) s2 = t) := ⟨_, hide rfl⟩
      rw [ht2.out] at ownb htm2 hvl2 ⊢
      rw [hI.out] at hvl2 ⊢
      have hb2 := hide ownb.read
      clear ownb
      have zb6 := hb6.size
      (try simp at zb6)
      have bb_a := hide (BoxV.ext (BoxV.new b5 [.int .i64 s2.st, .int .i64 s2.z, .int .i64 s2.b, .int .i64 s2.e, .slice a2.r s2.xs.length c5, .slice a2.p s2.p.length c6, .slice a2.f s2.f.length c7, .slice a2.k s2.k.length c8, .int .i64 s2.fi, .int .i64 s2.fk, .int .i64 s2.se, .int .i64 s2.co] 32) (Ext.trans Ext.go hb6))
      replace hb6 : Ext b5 b6 := Ext.trans Ext.go hb6
      have xb6 : Hid (Ext w b6) := hide (Ext.trans Ext.go hb6)
      have na := bb_a.out
      obtain ⟨ca0, ca1, ca2, ca3, ca4, ca5, ca6, ca7, ca8, ca9, ca10, ca11, -, ka⟩ := BoxV.a12 na
      clear na
      go_wp2_with fail
      refine (CloseSender_spec s2 a2 c5 c6 c7 c8 _ (hr2.out.ext Ext.go) (by omega) (by omega) (by omega)).mono ?_
      rintro en b7 ⟨d1, d2, d3, d4, o1, o2, o3, o4, rfl, ownd, hb7⟩
      rw [ht2.out] at ownd ⊢
      rw [hI.out]
      have hd2 := hide ownd.read
      clear ownd
      obtain ⟨j1, j2, j3, j4, j5⟩ := htm2.out
      have zb7 := hb7.size
      (try simp at zb7)
      have bb_b := hide (BoxV.ext (BoxV.new b6 [.int .i64 t2.st, .int .i64 t2.z, .int .i64 t2.b, .int .i64 t2.e, .slice b1 t2.xs.length l1, .slice b2 t2.p.length l2, .slice b3 t2.f.length l3, .slice b4 t2.k.length l4, .int .i64 t2.fi, .int .i64 t2.fk, .int .i64 t2.se, .int .i64 t2.co] 32) (Ext.trans Ext.go hb7))
      replace hb7 : Ext b6 b7 := Ext.trans Ext.go hb7
      have xb7 : Hid (Ext w b7) := hide (Ext.trans Ext.go hb7)
      clear ca0 ca1 ca2 ca3 ca4 ca5 ca6 ca7 ca8 ca9 ca10 ca11 ka
      as_aux_lemma =>
        go_wp2_with fail
        refine (DrawResetSender_any _ _ (hc.grown Ext.go)).mono ?_
        rintro en b8 ⟨s3, a3, f1, f2, f3, f4, u, rfl, hok3, hu, hr3, hb8⟩
        have qr0 := hok3.len
        have qr1 := hok3.p
        have qr2 := hok3.f
        have qr3 := hok3.k
        have qr4 := hok3.e
        have hsm3 := hide hok3.same
        replace hok3 := hide hok3
        replace hr3 := hide hr3
        have zb8 := hb8.size
        (try simp at zb8)
        have bb_c := hide (BoxV.ext (BoxV.new b7 [.int .i64 t2.st, .int .i64 t2.z, .int .i64 t2.b, .int .i64 t2.e, .slice d1 t2.xs.length o1, .slice d2 t2.p.length o2, .slice d3 t2.f.length o3, .slice d4 t2.k.length o4, .int .i64 t2.fi, .int .i64 t2.fk, .int .i64 t2.se, .int .i64 t2.co] 32) (Ext.trans Ext.go hb8))
        replace hb8 : Ext b7 b8 := Ext.trans Ext.go hb8
        have xb8 : Hid (Ext w b8) := hide (Ext.trans Ext.go hb8)
        go_wp2_with fail
        refine (ResetSender_impl s3 a3 f1 f2 f3 f4 u _ (hr3.out.ext Ext.go) (by omega) (by omega) (by omega)).mono ?_
        rintro en b9 ⟨v1, v2, v3, v4, p1, p2, p3, p4, rfl, ownv, hb9⟩
        rw [hsm3.out] at ownv ⊢
        have htm3 := hide (hok3.out.rs (sndS s3) (fun h => any_vld hok3.out h) u)
        have hvl3 := hide (fun (h : rsOk (sndS s3) s3 u = true) => any_rs hok3.out h)
        obtain ⟨t3, ht3⟩ : ∃ t, Hid (rsX (sndS s3) s3 u = t) := ⟨_, hide rfl⟩
        obtain ⟨fine, hF⟩ : ∃ t, Hid (rsOk (sndS s3) s3 u = t) := ⟨_, hide rfl⟩
        rw [ht3.out] at ownv htm3 hvl3 ⊢
        rw [hF.out] at hvl3 ⊢
        have hv3 := hide ownv.read
        clear ownv
        have zb9 := hb9.size
        (try simp at zb9)
        have bb_u := hide (BoxV.ext (BoxV.new b8 [.int .i64 s3.st, .int .i64 s3.z, .int .i64 s3.b, .int .i64 s3.e, .slice a3.r s3.xs.length f1, .slice a3.p s3.p.length f2, .slice a3.f s3.f.length f3, .slice a3.k s3.k.length f4, .int .i64 s3.fi, .int .i64 s3.fk, .int .i64 s3.se, .int .i64 s3.co] 32) (Ext.trans Ext.go hb9))
        replace hb9 : Ext b8 b9 := Ext.trans Ext.go hb9
        have xb9 : Hid (Ext w b9) := hide (Ext.trans Ext.go hb9)
        have nu := bb_u.out
        obtain ⟨cu0, cu1, cu2, cu3, cu4, cu5, cu6, cu7, cu8, cu9, cu10, cu11, -, ku⟩ := BoxV.a12 nu
        clear nu
        go_wp2_with fail
        refine (ResetSender_spec s3 a3 f1 f2 f3 f4 u _ (hr3.out.ext Ext.go) (by omega) (by omega) (by omega)).mono ?_
        rintro en b10 ⟨ww1, ww2, ww3, ww4, zz1, zz2, zz3, zz4, rfl, ownw, hb10⟩
        rw [ht3.out] at ownw ⊢
        rw [hF.out]
        have hw3 := hide ownw.read
        clear ownw
        obtain ⟨i1, i2, i3, i4, i5⟩ := htm3.out
        have zb10 := hb10.size
        (try simp at zb10)
        have bb_v := hide (BoxV.ext (BoxV.new b9 [.int .i64 t3.st, .int .i64 t3.z, .int .i64 t3.b, .int .i64 t3.e, .slice v1 t3.xs.length p1, .slice v2 t3.p.length p2, .slice v3 t3.f.length p3, .slice v4 t3.k.length p4, .int .i64 t3.fi, .int .i64 t3.fk, .int .i64 t3.se, .int .i64 t3.co] 32) (Ext.trans Ext.go hb10))
        replace hb10 : Ext b9 b10 := Ext.trans Ext.go hb10
        have xb10 : Hid (Ext w b10) := hide (Ext.trans Ext.go hb10)
        clear cu0 cu1 cu2 cu3 cu4 cu5 cu6 cu7 cu8 cu9 cu10 cu11 ku
        go_upto_region 14 with fail
        obtain ⟨b11, h0b11⟩ : ∃ u, u = (b10.alloc (.cells #[.int .i64 t3.st, .int .i64 t3.z, .int .i64 t3.b, .int .i64 t3.e, .slice ww1 t3.xs.length zz1, .slice ww2 t3.p.length zz2, .slice ww3 t3.f.length zz3, .slice ww4 t3.k.length zz4, .int .i64 t3.fi, .int .i64 t3.fk, .int .i64 t3.se, .int .i64 t3.co] 32)) := ⟨_, rfl⟩
        rw [← h0b11]
        have hb11 : Ext (b10.alloc (.cells #[.int .i64 t3.st, .int .i64 t3.z, .int .i64 t3.b, .int .i64 t3.e, .slice ww1 t3.xs.length zz1, .slice ww2 t3.p.length zz2, .slice ww3 t3.f.length zz3, .slice ww4 t3.k.length zz4, .int .i64 t3.fi, .int .i64 t3.fk, .int .i64 t3.se, .int .i64 t3.co] 32)) b11 := h0b11 ▸ Ext.refl _
        clear h0b11
        have zb11 := hb11.size
        (try simp at zb11)
        have bb_w := hide (BoxV.ext (BoxV.new b10 [.int .i64 t3.st, .int .i64 t3.z, .int .i64 t3.b, .int .i64 t3.e, .slice ww1 t3.xs.length zz1, .slice ww2 t3.p.length zz2, .slice ww3 t3.f.length zz3, .slice ww4 t3.k.length zz4, .int .i64 t3.fi, .int .i64 t3.fk, .int .i64 t3.se, .int .i64 t3.co] 32) (Ext.trans Ext.go hb11))
        replace hb11 : Ext b10 b11 := Ext.trans Ext.go hb11
        have xb11 : Hid (Ext w b11) := hide (Ext.trans Ext.go hb11)
        go_cut [171] (fun tq wx => tq = .bool false ∧ Ext b11 wx)
        case first =>
          as_aux_lemma =>
            cases is
            · skip
              have na := bb_a.out.ext (show Ext b6 b11 from Ext.go)
              obtain ⟨ca0, ca1, ca2, ca3, ca4, ca5, ca6, ca7, ca8, ca9, ca10, ca11, -, ka⟩ := BoxV.a12 na
              clear na
              have nb := bb_b.out.ext (show Ext b7 b11 from Ext.go)
              obtain ⟨cb0, cb1, cb2, cb3, cb4, cb5, cb6, cb7, cb8, cb9, cb10, cb11, -, kb⟩ := BoxV.a12 nb
              clear nb
              have nc := bb_c.out.ext (show Ext b8 b11 from Ext.go)
              obtain ⟨cc0, cc1, cc2, cc3, cc4, cc5, cc6, cc7, cc8, cc9, cc10, cc11, -, kc⟩ := BoxV.a12 nc
              clear nc
              have nu := bb_u.out.ext (show Ext b9 b11 from Ext.go)
              obtain ⟨cu0, cu1, cu2, cu3, cu4, cu5, cu6, cu7, cu8, cu9, cu10, cu11, -, ku⟩ := BoxV.a12 nu
              clear nu
              have nv := bb_v.out.ext (show Ext b10 b11 from Ext.go)
              obtain ⟨cv0, cv1, cv2, cv3, cv4, cv5, cv6, cv7, cv8, cv9, cv10, cv11, -, kv⟩ := BoxV.a12 nv
              clear nv
              have nw := bb_w.out
              obtain ⟨cw0, cw1, cw2, cw3, cw4, cw5, cw6, cw7, cw8, cw9, cw10, cw11, -, kw⟩ := BoxV.a12 nw
              clear nw
              go_wp2_with fail
              refine (eqs_same t2 ⟨b1, b2, b3, b4⟩ ⟨d1, d2, d3, d4⟩ l1 l2 l3 l4 o1 o2 o3 o4 _ (hb2.out.ext Ext.go) (hd2.out.ext Ext.go) htm2.out).mono ?_
              rintro en u12 ⟨rfl, hu12⟩
              have zu12 := hu12.size
              (try simp at zu12)
              replace hu12 : Ext b11 u12 := Ext.trans Ext.go hu12
              have xu12 : Hid (Ext w u12) := hide (Ext.trans Ext.go hu12)
              clear ca0 ca1 ca2 ca3 ca4 ca5 ca6 ca7 ca8 ca9 ca10 ca11 ka cb0 cb1 cb2 cb3 cb4 cb5 cb6 cb7 cb8 cb9 cb10 cb11 kb cc0 cc1 cc2 cc3 cc4 cc5 cc6 cc7 cc8 cc9 cc10 cc11 kc cu0 cu1 cu2 cu3 cu4 cu5 cu6 cu7 cu8 cu9 cu10 cu11 ku cv0 cv1 cv2 cv3 cv4 cv5 cv6 cv7 cv8 cv9 cv10 cv11 kv cw0 cw1 cw2 cw3 cw4 cw5 cw6 cw7 cw8 cw9 cw10 cw11 kw
              have na := bb_a.out.ext (show Ext b6 u12 from Ext.go)
              obtain ⟨ca0, ca1, ca2, ca3, ca4, ca5, ca6, ca7, ca8, ca9, ca10, ca11, -, ka⟩ := BoxV.a12 na
              clear na
              have nc := bb_c.out.ext (show Ext b8 u12 from Ext.go)
              obtain ⟨cc0, cc1, cc2, cc3, cc4, cc5, cc6, cc7, cc8, cc9, cc10, cc11, -, kc⟩ := BoxV.a12 nc
              clear nc
              have nu := bb_u.out.ext (show Ext b9 u12 from Ext.go)
              obtain ⟨cu0, cu1, cu2, cu3, cu4, cu5, cu6, cu7, cu8, cu9, cu10, cu11, -, ku⟩ := BoxV.a12 nu
              clear nu
              have nv := bb_v.out.ext (show Ext b10 u12 from Ext.go)
              obtain ⟨cv0, cv1, cv2, cv3, cv4, cv5, cv6, cv7, cv8, cv9, cv10, cv11, -, kv⟩ := BoxV.a12 nv
              clear nv
              have nw := bb_w.out.ext (show Ext b11 u12 from Ext.go)
              obtain ⟨cw0, cw1, cw2, cw3, cw4, cw5, cw6, cw7, cw8, cw9, cw10, cw11, -, kw⟩ := BoxV.a12 nw
              clear nw
              cases fine
              · skip
                as_aux_lemma =>
                  go_wp2_with fail
                  refine (eqs_same t3 ⟨v1, v2, v3, v4⟩ ⟨ww1, ww2, ww3, ww4⟩ p1 p2 p3 p4 zz1 zz2 zz3 zz4 _ (hv3.out.ext Ext.go) (hw3.out.ext Ext.go) htm3.out).mono ?_
                  rintro en ux13 ⟨rfl, hux13⟩
                  have zux13 := hux13.size
                  (try simp at zux13)
                  replace hux13 : Ext u12 ux13 := Ext.trans Ext.go hux13
                  have xux13 : Hid (Ext w ux13) := hide (Ext.trans Ext.go hux13)
                  clear ca0 ca1 ca2 ca3 ca4 ca5 ca6 ca7 ca8 ca9 ca10 ca11 ka cc0 cc1 cc2 cc3 cc4 cc5 cc6 cc7 cc8 cc9 cc10 cc11 kc cu0 cu1 cu2 cu3 cu4 cu5 cu6 cu7 cu8 cu9 cu10 cu11 ku cv0 cv1 cv2 cv3 cv4 cv5 cv6 cv7 cv8 cv9 cv10 cv11 kv cw0 cw1 cw2 cw3 cw4 cw5 cw6 cw7 cw8 cw9 cw10 cw11 kw
                  have nu := bb_u.out.ext (show Ext b9 ux13 from Ext.go)
                  obtain ⟨cu0, cu1, cu2, cu3, cu4, cu5, cu6, cu7, cu8, cu9, cu10, cu11, -, ku⟩ := BoxV.a12 nu
                  clear nu
                  have nw := bb_w.out.ext (show Ext b11 ux13 from Ext.go)
                  obtain ⟨cw0, cw1, cw2, cw3, cw4, cw5, cw6, cw7, cw8, cw9, cw10, cw11, -, kw⟩ := BoxV.a12 nw
                  clear nw
                  go_wp2_with fail
                  go_meet
                  exact ⟨rfl, Ext.go⟩
              · skip
                as_aux_lemma =>
                  obtain ⟨hw1, hw2⟩ := hvl3.out rfl
                  have hne3 : (t3.fi != s3.se) = false := by simp [hw2]
                  replace hw1 := hide hw1
                  clear hw2
                  go_wp2_with fail
                  refine (eqs_same t3 ⟨v1, v2, v3, v4⟩ ⟨ww1, ww2, ww3, ww4⟩ p1 p2 p3 p4 zz1 zz2 zz3 zz4 _ (hv3.out.ext Ext.go) (hw3.out.ext Ext.go) htm3.out).mono ?_
                  rintro en ux13 ⟨rfl, hux13⟩
                  have zux13 := hux13.size
                  (try simp at zux13)
                  replace hux13 : Ext u12 ux13 := Ext.trans Ext.go hux13
                  have xux13 : Hid (Ext w ux13) := hide (Ext.trans Ext.go hux13)
                  clear ca0 ca1 ca2 ca3 ca4 ca5 ca6 ca7 ca8 ca9 ca10 ca11 ka cc0 cc1 cc2 cc3 cc4 cc5 cc6 cc7 cc8 cc9 cc10 cc11 kc cu0 cu1 cu2 cu3 cu4 cu5 cu6 cu7 cu8 cu9 cu10 cu11 ku cv0 cv1 cv2 cv3 cv4 cv5 cv6 cv7 cv8 cv9 cv10 cv11 kv cw0 cw1 cw2 cw3 cw4 cw5 cw6 cw7 cw8 cw9 cw10 cw11 kw
                  have nu := bb_u.out.ext (show Ext b9 ux13 from Ext.go)
                  obtain ⟨cu0, cu1, cu2, cu3, cu4, cu5, cu6, cu7, cu8, cu9, cu10, cu11, -, ku⟩ := BoxV.a12 nu
                  clear nu
                  have nw := bb_w.out.ext (show Ext b11 ux13 from Ext.go)
                  obtain ⟨cw0, cw1, cw2, cw3, cw4, cw5, cw6, cw7, cw8, cw9, cw10, cw11, -, kw⟩ := BoxV.a12 nw
                  clear nw
                  go_wp2_with fail
                  refine (IsSender_impl t3 ⟨ww1, ww2, ww3, ww4⟩ zz1 zz2 zz3 zz4 _ (hw3.out.ext Ext.go) (by omega) (by omega)).mono ?_
                  rintro en ux14 ⟨rfl, hux14⟩
                  rw [hw1.out]
                  have zux14 := hux14.size
                  (try simp at zux14)
                  replace hux14 : Ext ux13 ux14 := Ext.trans Ext.go hux14
                  have xux14 : Hid (Ext w ux14) := hide (Ext.trans Ext.go hux14)
                  clear cu0 cu1 cu2 cu3 cu4 cu5 cu6 cu7 cu8 cu9 cu10 cu11 ku cw0 cw1 cw2 cw3 cw4 cw5 cw6 cw7 cw8 cw9 cw10 cw11 kw
                  have nu := bb_u.out.ext (show Ext b9 ux14 from Ext.go)
                  obtain ⟨cu0, cu1, cu2, cu3, cu4, cu5, cu6, cu7, cu8, cu9, cu10, cu11, -, ku⟩ := BoxV.a12 nu
                  clear nu
                  have nw := bb_w.out.ext (show Ext b11 ux14 from Ext.go)
                  obtain ⟨cw0, cw1, cw2, cw3, cw4, cw5, cw6, cw7, cw8, cw9, cw10, cw11, -, kw⟩ := BoxV.a12 nw
                  clear nw
                  go_wp2_with fail
                  go_meet
                  exact ⟨rfl, Ext.go⟩
            · skip
              have na := bb_a.out.ext (show Ext b6 b11 from Ext.go)
              obtain ⟨ca0, ca1, ca2, ca3, ca4, ca5, ca6, ca7, ca8, ca9, ca10, ca11, -, ka⟩ := BoxV.a12 na
              clear na
              have nb := bb_b.out.ext (show Ext b7 b11 from Ext.go)
              obtain ⟨cb0, cb1, cb2, cb3, cb4, cb5, cb6, cb7, cb8, cb9, cb10, cb11, -, kb⟩ := BoxV.a12 nb
              clear nb
              have nc := bb_c.out.ext (show Ext b8 b11 from Ext.go)
              obtain ⟨cc0, cc1, cc2, cc3, cc4, cc5, cc6, cc7, cc8, cc9, cc10, cc11, -, kc⟩ := BoxV.a12 nc
              clear nc
              have nu := bb_u.out.ext (show Ext b9 b11 from Ext.go)
              obtain ⟨cu0, cu1, cu2, cu3, cu4, cu5, cu6, cu7, cu8, cu9, cu10, cu11, -, ku⟩ := BoxV.a12 nu
              clear nu
              have nv := bb_v.out.ext (show Ext b10 b11 from Ext.go)
              obtain ⟨cv0, cv1, cv2, cv3, cv4, cv5, cv6, cv7, cv8, cv9, cv10, cv11, -, kv⟩ := BoxV.a12 nv
              clear nv
              have nw := bb_w.out
              obtain ⟨cw0, cw1, cw2, cw3, cw4, cw5, cw6, cw7, cw8, cw9, cw10, cw11, -, kw⟩ := BoxV.a12 nw
              clear nw
              obtain ⟨hv1, hv2, hv4⟩ := hvl2.out rfl
              have hne : (t2.fi != s2.e) = false := by simp [hv2]
              replace hv1 := hide hv1
              clear hv2 hv4
              go_wp2_with fail
              refine (eqs_same t2 ⟨b1, b2, b3, b4⟩ ⟨d1, d2, d3, d4⟩ l1 l2 l3 l4 o1 o2 o3 o4 _ (hb2.out.ext Ext.go) (hd2.out.ext Ext.go) htm2.out).mono ?_
              rintro en v12 ⟨rfl, hv12⟩
              have zv12 := hv12.size
              (try simp at zv12)
              replace hv12 : Ext b11 v12 := Ext.trans Ext.go hv12
              have xv12 : Hid (Ext w v12) := hide (Ext.trans Ext.go hv12)
              clear ca0 ca1 ca2 ca3 ca4 ca5 ca6 ca7 ca8 ca9 ca10 ca11 ka cb0 cb1 cb2 cb3 cb4 cb5 cb6 cb7 cb8 cb9 cb10 cb11 kb cc0 cc1 cc2 cc3 cc4 cc5 cc6 cc7 cc8 cc9 cc10 cc11 kc cu0 cu1 cu2 cu3 cu4 cu5 cu6 cu7 cu8 cu9 cu10 cu11 ku cv0 cv1 cv2 cv3 cv4 cv5 cv6 cv7 cv8 cv9 cv10 cv11 kv cw0 cw1 cw2 cw3 cw4 cw5 cw6 cw7 cw8 cw9 cw10 cw11 kw
              have na := bb_a.out.ext (show Ext b6 v12 from Ext.go)
              obtain ⟨ca0, ca1, ca2, ca3, ca4, ca5, ca6, ca7, ca8, ca9, ca10, ca11, -, ka⟩ := BoxV.a12 na
              clear na
              have nc := bb_c.out.ext (show Ext b8 v12 from Ext.go)
              obtain ⟨cc0, cc1, cc2, cc3, cc4, cc5, cc6, cc7, cc8, cc9, cc10, cc11, -, kc⟩ := BoxV.a12 nc
              clear nc
              have nu := bb_u.out.ext (show Ext b9 v12 from Ext.go)
              obtain ⟨cu0, cu1, cu2, cu3, cu4, cu5, cu6, cu7, cu8, cu9, cu10, cu11, -, ku⟩ := BoxV.a12 nu
              clear nu
              have nv := bb_v.out.ext (show Ext b10 v12 from Ext.go)
              obtain ⟨cv0, cv1, cv2, cv3, cv4, cv5, cv6, cv7, cv8, cv9, cv10, cv11, -, kv⟩ := BoxV.a12 nv
              clear nv
              have nw := bb_w.out.ext (show Ext b11 v12 from Ext.go)
              obtain ⟨cw0, cw1, cw2, cw3, cw4, cw5, cw6, cw7, cw8, cw9, cw10, cw11, -, kw⟩ := BoxV.a12 nw
              clear nw
              go_wp2_with fail
              refine (IsSender_impl t2 ⟨d1, d2, d3, d4⟩ o1 o2 o3 o4 _ (hd2.out.ext Ext.go) (by omega) (by omega)).mono ?_
              rintro en v13 ⟨rfl, hv13⟩
              rw [hv1.out]
              have zv13 := hv13.size
              (try simp at zv13)
              replace hv13 : Ext v12 v13 := Ext.trans Ext.go hv13
              have xv13 : Hid (Ext w v13) := hide (Ext.trans Ext.go hv13)
              clear ca0 ca1 ca2 ca3 ca4 ca5 ca6 ca7 ca8 ca9 ca10 ca11 ka cc0 cc1 cc2 cc3 cc4 cc5 cc6 cc7 cc8 cc9 cc10 cc11 kc cu0 cu1 cu2 cu3 cu4 cu5 cu6 cu7 cu8 cu9 cu10 cu11 ku cv0 cv1 cv2 cv3 cv4 cv5 cv6 cv7 cv8 cv9 cv10 cv11 kv cw0 cw1 cw2 cw3 cw4 cw5 cw6 cw7 cw8 cw9 cw10 cw11 kw
              have na := bb_a.out.ext (show Ext b6 v13 from Ext.go)
              obtain ⟨ca0, ca1, ca2, ca3, ca4, ca5, ca6, ca7, ca8, ca9, ca10, ca11, -, ka⟩ := BoxV.a12 na
              clear na
              have nc := bb_c.out.ext (show Ext b8 v13 from Ext.go)
              obtain ⟨cc0, cc1, cc2, cc3, cc4, cc5, cc6, cc7, cc8, cc9, cc10, cc11, -, kc⟩ := BoxV.a12 nc
              clear nc
              have nu := bb_u.out.ext (show Ext b9 v13 from Ext.go)
              obtain ⟨cu0, cu1, cu2, cu3, cu4, cu5, cu6, cu7, cu8, cu9, cu10, cu11, -, ku⟩ := BoxV.a12 nu
              clear nu
              have nv := bb_v.out.ext (show Ext b10 v13 from Ext.go)
              obtain ⟨cv0, cv1, cv2, cv3, cv4, cv5, cv6, cv7, cv8, cv9, cv10, cv11, -, kv⟩ := BoxV.a12 nv
              clear nv
              have nw := bb_w.out.ext (show Ext b11 v13 from Ext.go)
              obtain ⟨cw0, cw1, cw2, cw3, cw4, cw5, cw6, cw7, cw8, cw9, cw10, cw11, -, kw⟩ := BoxV.a12 nw
              clear nw
              cases fine
              · skip
                as_aux_lemma =>
                  go_wp2_with fail
                  refine (eqs_same t3 ⟨v1, v2, v3, v4⟩ ⟨ww1, ww2, ww3, ww4⟩ p1 p2 p3 p4 zz1 zz2 zz3 zz4 _ (hv3.out.ext Ext.go) (hw3.out.ext Ext.go) htm3.out).mono ?_
                  rintro en vx14 ⟨rfl, hvx14⟩
                  have zvx14 := hvx14.size
                  (try simp at zvx14)
                  replace hvx14 : Ext v13 vx14 := Ext.trans Ext.go hvx14
                  have xvx14 : Hid (Ext w vx14) := hide (Ext.trans Ext.go hvx14)
                  clear ca0 ca1 ca2 ca3 ca4 ca5 ca6 ca7 ca8 ca9 ca10 ca11 ka cc0 cc1 cc2 cc3 cc4 cc5 cc6 cc7 cc8 cc9 cc10 cc11 kc cu0 cu1 cu2 cu3 cu4 cu5 cu6 cu7 cu8 cu9 cu10 cu11 ku cv0 cv1 cv2 cv3 cv4 cv5 cv6 cv7 cv8 cv9 cv10 cv11 kv cw0 cw1 cw2 cw3 cw4 cw5 cw6 cw7 cw8 cw9 cw10 cw11 kw
                  have nu := bb_u.out.ext (show Ext b9 vx14 from Ext.go)
                  obtain ⟨cu0, cu1, cu2, cu3, cu4, cu5, cu6, cu7, cu8, cu9, cu10, cu11, -, ku⟩ := BoxV.a12 nu
                  clear nu
                  have nw := bb_w.out.ext (show Ext b11 vx14 from Ext.go)
                  obtain ⟨cw0, cw1, cw2, cw3, cw4, cw5, cw6, cw7, cw8, cw9, cw10, cw11, -, kw⟩ := BoxV.a12 nw
                  clear nw
                  go_wp2_with fail
                  go_meet
                  exact ⟨rfl, Ext.go⟩
              · skip
                as_aux_lemma =>
                  obtain ⟨hw1, hw2⟩ := hvl3.out rfl
                  have hne3 : (t3.fi != s3.se) = false := by simp [hw2]
                  replace hw1 := hide hw1
                  clear hw2
                  go_wp2_with fail
                  refine (eqs_same t3 ⟨v1, v2, v3, v4⟩ ⟨ww1, ww2, ww3, ww4⟩ p1 p2 p3 p4 zz1 zz2 zz3 zz4 _ (hv3.out.ext Ext.go) (hw3.out.ext Ext.go) htm3.out).mono ?_
                  rintro en vx14 ⟨rfl, hvx14⟩
                  have zvx14 := hvx14.size
                  (try simp at zvx14)
                  replace hvx14 : Ext v13 vx14 := Ext.trans Ext.go hvx14
                  have xvx14 : Hid (Ext w vx14) := hide (Ext.trans Ext.go hvx14)
                  clear ca0 ca1 ca2 ca3 ca4 ca5 ca6 ca7 ca8 ca9 ca10 ca11 ka cc0 cc1 cc2 cc3 cc4 cc5 cc6 cc7 cc8 cc9 cc10 cc11 kc cu0 cu1 cu2 cu3 cu4 cu5 cu6 cu7 cu8 cu9 cu10 cu11 ku cv0 cv1 cv2 cv3 cv4 cv5 cv6 cv7 cv8 cv9 cv10 cv11 kv cw0 cw1 cw2 cw3 cw4 cw5 cw6 cw7 cw8 cw9 cw10 cw11 kw
                  have nu := bb_u.out.ext (show Ext b9 vx14 from Ext.go)
                  obtain ⟨cu0, cu1, cu2, cu3, cu4, cu5, cu6, cu7, cu8, cu9, cu10, cu11, -, ku⟩ := BoxV.a12 nu
                  clear nu
                  have nw := bb_w.out.ext (show Ext b11 vx14 from Ext.go)
                  obtain ⟨cw0, cw1, cw2, cw3, cw4, cw5, cw6, cw7, cw8, cw9, cw10, cw11, -, kw⟩ := BoxV.a12 nw
                  clear nw
                  go_wp2_with fail
                  refine (IsSender_impl t3 ⟨ww1, ww2, ww3, ww4⟩ zz1 zz2 zz3 zz4 _ (hw3.out.ext Ext.go) (by omega) (by omega)).mono ?_
                  rintro en vx15 ⟨rfl, hvx15⟩
                  rw [hw1.out]
                  have zvx15 := hvx15.size
                  (try simp at zvx15)
                  replace hvx15 : Ext vx14 vx15 := Ext.trans Ext.go hvx15
                  have xvx15 : Hid (Ext w vx15) := hide (Ext.trans Ext.go hvx15)
                  clear cu0 cu1 cu2 cu3 cu4 cu5 cu6 cu7 cu8 cu9 cu10 cu11 ku cw0 cw1 cw2 cw3 cw4 cw5 cw6 cw7 cw8 cw9 cw10 cw11 kw
                  have nu := bb_u.out.ext (show Ext b9 vx15 from Ext.go)
                  obtain ⟨cu0, cu1, cu2, cu3, cu4, cu5, cu6, cu7, cu8, cu9, cu10, cu11, -, ku⟩ := BoxV.a12 nu
                  clear nu
                  have nw := bb_w.out.ext (show Ext b11 vx15 from Ext.go)
                  obtain ⟨cw0, cw1, cw2, cw3, cw4, cw5, cw6, cw7, cw8, cw9, cw10, cw11, -, kw⟩ := BoxV.a12 nw
                  clear nw
                  go_wp2_with fail
                  go_meet
                  exact ⟨rfl, Ext.go⟩
        case rest =>
          obtain ⟨rfl, hcut⟩ := hcut
          obtain ⟨wb, hwe⟩ : ∃ u, u = wc := ⟨_, rfl⟩
          subst hwe
          have hwb := hcut
          clear hcut
          have zwb := hwb.size
          (try simp at zwb)
          replace hwb : Ext b11 wb := Ext.trans Ext.go hwb
          have xwb : Hid (Ext w wb) := hide (Ext.trans Ext.go hwb)
          as_aux_lemma =>
            have nc := bb_c.out.ext (show Ext b8 wb from Ext.go)
            obtain ⟨cc0, cc1, cc2, cc3, cc4, cc5, cc6, cc7, cc8, cc9, cc10, cc11, -, kc⟩ := BoxV.a12 nc
            clear nc
            go_upto_if 172 with fail
            go_cut [] (fun wx => Ext wb wx)
            case first =>
              cases is
              · go_wp2_with fail
                go_meet
                exact Ext.refl _
              · skip
                obtain ⟨-, -, hcw⟩ := hvl2.out rfl
                replace hcw := hide hcw
                go_wp2_with fail
                refine (WriteSender_impl t2 ⟨d1, d2, d3, d4⟩ o1 o2 o3 o4 ⟨#[97]⟩ _ (hd2.out.ext Ext.go) (by omega) (by omega) (by omega) (by decide)).mono ?_
                rintro en e12 ⟨x1, x2, x3, x4, y1, y2, y3, y4, rfl, ownx, he12⟩
                have hm0 : wrM (sndI t2) t2 ⟨#[97]⟩ = 0 := by unfold wrM; rw [hcw.out]; rfl
                rw [hm0]
                clear hm0
                obtain ⟨t9, ht9⟩ : ∃ t, Hid (wrX (sndI t2) t2 ⟨#[97]⟩ = t) := ⟨_, hide rfl⟩
                rw [ht9.out] at ownx ⊢
                clear ownx ht9
                have ze12 := he12.size
                (try simp at ze12)
                replace he12 : Ext wb e12 := Ext.trans Ext.go he12
                have xe12 : Hid (Ext w e12) := hide (Ext.trans Ext.go he12)
                clear cc0 cc1 cc2 cc3 cc4 cc5 cc6 cc7 cc8 cc9 cc10 cc11 kc
                have nc := bb_c.out.ext (show Ext b8 e12 from Ext.go)
                obtain ⟨cc0, cc1, cc2, cc3, cc4, cc5, cc6, cc7, cc8, cc9, cc10, cc11, -, kc⟩ := BoxV.a12 nc
                clear nc
                go_wp2_with fail
                refine (CloseSender_impl t2 ⟨d1, d2, d3, d4⟩ o1 o2 o3 o4 _ (hd2.out.ext Ext.go) (by omega) (by omega) (by omega)).mono ?_
                rintro en e13 ⟨q1, q2, q3, q4, r1, r2, r3, r4, rfl, ownq, he13⟩
                rw [hcw.out]
                clear ownq
                have ze13 := he13.size
                (try simp at ze13)
                have bb_m := hide (BoxV.ext (BoxV.new e12 [.int .i64 t9.st, .int .i64 t9.z, .int .i64 t9.b, .int .i64 t9.e, .slice x1 t9.xs.length y1, .slice x2 t9.p.length y2, .slice x3 t9.f.length y3, .slice x4 t9.k.length y4, .int .i64 t9.fi, .int .i64 t9.fk, .int .i64 t9.se, .int .i64 t9.co] 32) (Ext.trans Ext.go he13))
                replace he13 : Ext e12 e13 := Ext.trans Ext.go he13
                have xe13 : Hid (Ext w e13) := hide (Ext.trans Ext.go he13)
                clear cc0 cc1 cc2 cc3 cc4 cc5 cc6 cc7 cc8 cc9 cc10 cc11 kc
                go_wp2_with fail
                go_meet
                exact Ext.go
            case rest =>
              obtain ⟨wd, hwe⟩ : ∃ u, u = wc := ⟨_, rfl⟩
              subst hwe
              have hwd := hcut
              clear hcut
              have zwd := hwd.size
              (try simp at zwd)
              replace hwd : Ext wb wd := Ext.trans Ext.go hwd
              have xwd : Hid (Ext w wd) := hide (Ext.trans Ext.go hwd)
              clear cc0 cc1 cc2 cc3 cc4 cc5 cc6 cc7 cc8 cc9 cc10 cc11 kc
              as_aux_lemma =>
                go_wp2_with fail
                refine (DrawAckReset_any _ _ (hc.grown Ext.go)).mono ?_
                rintro en f12 ⟨s4, a4, m6, m7, m8, m9, rfl, hok4, hr4, hf12⟩
                have qv0 := hok4.len
                have qv1 := hok4.p
                have qv2 := hok4.f
                have qv3 := hok4.k
                have qv4 := hok4.e
                have hsm4 := hide hok4.same
                replace hok4 := hide hok4
                replace hr4 := hide hr4
                have zf12 := hf12.size
                (try simp at zf12)
                replace hf12 : Ext wd f12 := Ext.trans Ext.go hf12
                have xf12 : Hid (Ext w f12) := hide (Ext.trans Ext.go hf12)
                go_wp2_with fail
                refine (AckReset_impl s4 a4 m6 m7 m8 m9 _ (hr4.out.ext Ext.go) (by omega) (by omega) (by omega)).mono ?_
                rintro en f13 ⟨h1, h2, h3, h4, y1, y2, y3, y4, rfl, ownh, hf13⟩
                rw [hsm4.out] at ownh ⊢
                have htm4 := hide (hok4.out.ar (sndS s4))
                obtain ⟨t4, ht4⟩ : ∃ t, Hid (arX (sndS s4) s4 = t) := ⟨_, hide rfl⟩
                obtain ⟨done, hD⟩ : ∃ t, Hid ((sndS s4 && decide (s4.st = 4)) = t) := ⟨_, hide rfl⟩
                rw [show (if sndS s4 = true ∧ s4.st = 4 then arV s4 else s4) = t4 from ht4.out] at ownh ⊢
                rw [ht4.out] at htm4
                rw [hD.out]
                have hh4 := hide ownh.read
                clear ownh
                have zf13 := hf13.size
                (try simp at zf13)
                have bb_d := hide (BoxV.ext (BoxV.new f12 [.int .i64 s4.st, .int .i64 s4.z, .int .i64 s4.b, .int .i64 s4.e, .slice a4.r s4.xs.length m6, .slice a4.p s4.p.length m7, .slice a4.f s4.f.length m8, .slice a4.k s4.k.length m9, .int .i64 s4.fi, .int .i64 s4.fk, .int .i64 s4.se, .int .i64 s4.co] 32) (Ext.trans Ext.go hf13))
                replace hf13 : Ext f12 f13 := Ext.trans Ext.go hf13
                have xf13 : Hid (Ext w f13) := hide (Ext.trans Ext.go hf13)
                have nd := bb_d.out
                obtain ⟨cd0, cd1, cd2, cd3, cd4, cd5, cd6, cd7, cd8, cd9, cd10, cd11, -, kd⟩ := BoxV.a12 nd
                clear nd
                go_wp2_with fail
                refine (AckReset_spec s4 a4 m6 m7 m8 m9 _ (hr4.out.ext Ext.go) (by omega) (by omega) (by omega)).mono ?_
                rintro en f14 ⟨i1, i2, i3, i4, x1, x2, x3, x4, rfl, owni, hf14⟩
                rw [show (if sndS s4 = true ∧ s4.st = 4 then arV s4 else s4) = t4 from ht4.out] at owni ⊢
                rw [hD.out]
                have hi4 := hide owni.read
                clear owni
                have zf14 := hf14.size
                (try simp at zf14)
                have bb_e := hide (BoxV.ext (BoxV.new f13 [.int .i64 t4.st, .int .i64 t4.z, .int .i64 t4.b, .int .i64 t4.e, .slice h1 t4.xs.length y1, .slice h2 t4.p.length y2, .slice h3 t4.f.length y3, .slice h4 t4.k.length y4, .int .i64 t4.fi, .int .i64 t4.fk, .int .i64 t4.se, .int .i64 t4.co] 32) (Ext.trans Ext.go hf14))
                replace hf14 : Ext f13 f14 := Ext.trans Ext.go hf14
                have xf14 : Hid (Ext w f14) := hide (Ext.trans Ext.go hf14)
                clear cd0 cd1 cd2 cd3 cd4 cd5 cd6 cd7 cd8 cd9 cd10 cd11 kd
                as_aux_lemma =>
                  go_wp2_with fail
                  refine (DrawNewSender_any _ _ (hc.grown Ext.go)).mono ?_
                  rintro en f15 ⟨nn, rfl, hnn, hf15⟩
                  have zf15 := hf15.size
                  (try simp at zf15)
                  have bb_f := hide (BoxV.ext (BoxV.new f14 [.int .i64 t4.st, .int .i64 t4.z, .int .i64 t4.b, .int .i64 t4.e, .slice i1 t4.xs.length x1, .slice i2 t4.p.length x2, .slice i3 t4.f.length x3, .slice i4 t4.k.length x4, .int .i64 t4.fi, .int .i64 t4.fk, .int .i64 t4.se, .int .i64 t4.co] 32) (Ext.trans Ext.go hf15))
                  replace hf15 : Ext f14 f15 := Ext.trans Ext.go hf15
                  have xf15 : Hid (Ext w f15) := hide (Ext.trans Ext.go hf15)
                  go_wp2_with fail
                  refine (NewSender_implV nn _).mono ?_
                  rintro en f16 ⟨j1, j2, j3, j4, q1, q2, q3, q4, rfl, ownj, hf16⟩
                  have htm5 := hide (nwSn_sm hnn.2)
                  obtain ⟨t5, ht5⟩ : ∃ t, Hid (nwSn nn = t) := ⟨_, hide rfl⟩
                  obtain ⟨made, hN⟩ : ∃ t, Hid (ringSz nn = t) := ⟨_, hide rfl⟩
                  rw [ht5.out] at ownj htm5 ⊢
                  rw [hN.out]
                  have hj5 := hide ownj.read
                  clear ownj
                  have zf16 := hf16.size
                  (try simp at zf16)
                  replace hf16 : Ext f15 f16 := Ext.trans Ext.go hf16
                  have xf16 : Hid (Ext w f16) := hide (Ext.trans Ext.go hf16)
                  go_wp2_with fail
                  refine (NewSender_specV nn _).mono ?_
                  rintro en f17 ⟨l1, l2, l3, l4, r1, r2, r3, r4, rfl, ownl, hf17⟩
                  rw [ht5.out] at ownl ⊢
                  rw [hN.out]
                  have hl5 := hide ownl.read
                  clear ownl
                  have zf17 := hf17.size
                  (try simp at zf17)
                  have bb_g := hide (BoxV.ext (BoxV.new f16 [.int .i64 t5.st, .int .i64 t5.z, .int .i64 t5.b, .int .i64 t5.e, .slice j1 t5.xs.length q1, .slice j2 t5.p.length q2, .slice j3 t5.f.length q3, .slice j4 t5.k.length q4, .int .i64 t5.fi, .int .i64 t5.fk, .int .i64 t5.se, .int .i64 t5.co] 32) (Ext.trans Ext.go hf17))
                  replace hf17 : Ext f16 f17 := Ext.trans Ext.go hf17
                  have xf17 : Hid (Ext w f17) := hide (Ext.trans Ext.go hf17)
                  as_aux_lemma =>
                    go_wp2_with fail
                    refine (DrawEqualSenders_any _ _ (hc.grown Ext.go)).mono ?_
                    rintro en f18 ⟨s6, a6, ca, cb, cc, cd, s7, a7, ce, cf, cg, ch, rfl, hok6, hok7, hr6, hr7, hf18⟩
                    have qw0 := hok6.len
                    have qw1 := hok6.p
                    have qw2 := hok6.f
                    have qw3 := hok6.k
                    have qw4 := hok6.e
                    replace hok6 := hide hok6
                    replace hr6 := hide hr6
                    replace hr7 := hide hr7
                    obtain ⟨a6r, a6p, a6f, a6k⟩ := a6
                    obtain ⟨a7r, a7p, a7f, a7k⟩ := a7
                    dsimp only
                    have zf18 := hf18.size
                    (try simp at zf18)
                    have bb_h := hide (BoxV.ext (BoxV.new f17 [.int .i64 t5.st, .int .i64 t5.z, .int .i64 t5.b, .int .i64 t5.e, .slice l1 t5.xs.length r1, .slice l2 t5.p.length r2, .slice l3 t5.f.length r3, .slice l4 t5.k.length r4, .int .i64 t5.fi, .int .i64 t5.fk, .int .i64 t5.se, .int .i64 t5.co] 32) (Ext.trans Ext.go hf18))
                    replace hf18 : Ext f17 f18 := Ext.trans Ext.go hf18
                    have xf18 : Hid (Ext w f18) := hide (Ext.trans Ext.go hf18)
                    go_wp2_with fail
                    refine (DrawSendName_any _ _ (hc.grown Ext.go)).mono ?_
                    rintro en f19 ⟨nm, rfl, hnm, hf19⟩
                    have zf19 := hf19.size
                    (try simp at zf19)
                    have bb_p := hide (BoxV.ext (BoxV.new f18 [.int .i64 s6.st, .int .i64 s6.z, .int .i64 s6.b, .int .i64 s6.e, .slice a6r s6.xs.length ca, .slice a6p s6.p.length cb, .slice a6f s6.f.length cc, .slice a6k s6.k.length cd, .int .i64 s6.fi, .int .i64 s6.fk, .int .i64 s6.se, .int .i64 s6.co] 32) (Ext.trans Ext.go hf19))
                    have bb_q := hide (BoxV.ext (show BoxV (f18.heap.size + 1) ((f18.alloc (.cells #[.int .i64 s6.st, .int .i64 s6.z, .int .i64 s6.b, .int .i64 s6.e, .slice a6r s6.xs.length ca, .slice a6p s6.p.length cb, .slice a6f s6.f.length cc, .slice a6k s6.k.length cd, .int .i64 s6.fi, .int .i64 s6.fk, .int .i64 s6.se, .int .i64 s6.co] 32)).alloc (.cells #[.int .i64 s7.st, .int .i64 s7.z, .int .i64 s7.b, .int .i64 s7.e, .slice a7r s7.xs.length ce, .slice a7p s7.p.length cf, .slice a7f s7.f.length cg, .slice a7k s7.k.length ch, .int .i64 s7.fi, .int .i64 s7.fk, .int .i64 s7.se, .int .i64 s7.co] 32)) [.int .i64 s7.st, .int .i64 s7.z, .int .i64 s7.b, .int .i64 s7.e, .slice a7r s7.xs.length ce, .slice a7p s7.p.length cf, .slice a7f s7.f.length cg, .slice a7k s7.k.length ch, .int .i64 s7.fi, .int .i64 s7.fk, .int .i64 s7.se, .int .i64 s7.co] from by have h := (BoxV.new (f18.alloc (.cells #[.int .i64 s6.st, .int .i64 s6.z, .int .i64 s6.b, .int .i64 s6.e, .slice a6r s6.xs.length ca, .slice a6p s6.p.length cb, .slice a6f s6.f.length cc, .slice a6k s6.k.length cd, .int .i64 s6.fi, .int .i64 s6.fk, .int .i64 s6.se, .int .i64 s6.co] 32)) [.int .i64 s7.st, .int .i64 s7.z, .int .i64 s7.b, .int .i64 s7.e, .slice a7r s7.xs.length ce, .slice a7p s7.p.length cf, .slice a7f s7.f.length cg, .slice a7k s7.k.length ch, .int .i64 s7.fi, .int .i64 s7.fk, .int .i64 s7.se, .int .i64 s7.co] 32); simpa only [World.size_alloc, World.size_drew] using h) (Ext.trans Ext.go hf19))
                    replace hf19 : Ext f18 f19 := Ext.trans Ext.go hf19
                    have xf19 : Hid (Ext w f19) := hide (Ext.trans Ext.go hf19)
                    as_aux_lemma =>
                      have ne := bb_e.out.ext (show Ext f14 f19 from Ext.go)
                      obtain ⟨ce0, ce1, ce2, ce3, ce4, ce5, ce6, ce7, ce8, ce9, ce10, ce11, -, ke⟩ := BoxV.a12 ne
                      clear ne
                      have nf := bb_f.out.ext (show Ext f15 f19 from Ext.go)
                      obtain ⟨cf0, cf1, cf2, cf3, cf4, cf5, cf6, cf7, cf8, cf9, cf10, cf11, -, kf⟩ := BoxV.a12 nf
                      clear nf
                      have ng := bb_g.out.ext (show Ext f17 f19 from Ext.go)
                      obtain ⟨cg0, cg1, cg2, cg3, cg4, cg5, cg6, cg7, cg8, cg9, cg10, cg11, -, kg⟩ := BoxV.a12 ng
                      clear ng
                      have nh := bb_h.out.ext (show Ext f18 f19 from Ext.go)
                      obtain ⟨ch0, ch1, ch2, ch3, ch4, ch5, ch6, ch7, ch8, ch9, ch10, ch11, -, kh⟩ := BoxV.a12 nh
                      clear nh
                      have np := bb_p.out
                      obtain ⟨cp0, cp1, cp2, cp3, cp4, cp5, cp6, cp7, cp8, cp9, cp10, cp11, -, kp⟩ := BoxV.a12 np
                      clear np
                      have nq := bb_q.out
                      obtain ⟨cq0, cq1, cq2, cq3, cq4, cq5, cq6, cq7, cq8, cq9, cq10, cq11, -, kq⟩ := BoxV.a12 nq
                      clear nq
                      go_wp2_with fail
                      refine wp_region_flowE 31 [(0, 1), (1, 1), (2, 1), (3, 1), (4, 1), (5, 1), (6, 0), (7, 1), (8, 1), (9, 1), (10, 1), (11, 1), (12, 1), (13, 1), (14, 1), (15, 1), (16, 0), (17, 1), (18, 1), (19, 1), (20, 1), (22, 1), (23, 1), (21, 0), (24, 0), (25, 1), (26, 1), (27, 1), (28, 1), (30, 1), (29, 0)] (by kernel_rfl) (by kernel_rfl) ?_
                      iterate 4 ((refine wpF_pure (v := ?_) rfl rfl (by rfl) ?_ ?_; rotate_left; (focus (intro ws hws; go_simp; (try with_reducible rfl); done))); try simp only [nrm, nrg])
                      (refine wpF_pure (v := ?_) rfl rfl (by rfl) ?_ ?_; rotate_left; (focus (intro ws hws; obtain ⟨q0, p0⟩ := hws.row (k := f13.heap.size) xpf; go_simp; (try with_reducible rfl); done)))
                      try simp only [nrm, nrg]
                      (refine wpF_pure (v := ?_) rfl rfl (by rfl) ?_ ?_; rotate_left; (focus (intro ws hws; obtain ⟨q0, p0⟩ := hws.row (k := f14.heap.size) xpf; go_simp; (try with_reducible rfl); done)))
                      try simp only [nrm, nrg]
                      (refine wpF_call 18 ?_ rfl rfl (by rfl) ?_ ?_; rotate_left; (focus (go_simp; (try with_reducible rfl); done)))
                      refine (eqs_same t4 ⟨h1, h2, h3, h4⟩ ⟨i1, i2, i3, i4⟩ y1 y2 y3 y4 x1 x2 x3 x4 _ (hh4.out.ext Ext.go) (hi4.out.ext Ext.go) htm4.out).mono ?_
                      rintro en f20 ⟨rfl, hf20⟩
                      refine ⟨_, rfl, hf20, ?_⟩
                      try simp only [nrm, nrg]
                      have zf20 := hf20.size
                      (try simp at zf20)
                      replace hf20 : Ext f19 f20 := Ext.trans Ext.go hf20
                      have xf20 : Hid (Ext w f20) := hide (Ext.trans Ext.go hf20)
                      clear ce0 ce1 ce2 ce3 ce4 ce5 ce6 ce7 ce8 ce9 ce10 ce11 ke cf0 cf1 cf2 cf3 cf4 cf5 cf6 cf7 cf8 cf9 cf10 cf11 kf cg0 cg1 cg2 cg3 cg4 cg5 cg6 cg7 cg8 cg9 cg10 cg11 kg ch0 ch1 ch2 ch3 ch4 ch5 ch6 ch7 ch8 ch9 ch10 ch11 kh cp0 cp1 cp2 cp3 cp4 cp5 cp6 cp7 cp8 cp9 cp10 cp11 kp cq0 cq1 cq2 cq3 cq4 cq5 cq6 cq7 cq8 cq9 cq10 cq11 kq
                      have ne := bb_e.out.ext (show Ext f14 f20 from Ext.go)
                      obtain ⟨ce0, ce1, ce2, ce3, ce4, ce5, ce6, ce7, ce8, ce9, ce10, ce11, -, ke⟩ := BoxV.a12 ne
                      clear ne
                      have nf := bb_f.out.ext (show Ext f15 f20 from Ext.go)
                      obtain ⟨cf0, cf1, cf2, cf3, cf4, cf5, cf6, cf7, cf8, cf9, cf10, cf11, -, kf⟩ := BoxV.a12 nf
                      clear nf
                      have ng := bb_g.out.ext (show Ext f17 f20 from Ext.go)
                      obtain ⟨cg0, cg1, cg2, cg3, cg4, cg5, cg6, cg7, cg8, cg9, cg10, cg11, -, kg⟩ := BoxV.a12 ng
                      clear ng
                      have nh := bb_h.out.ext (show Ext f18 f20 from Ext.go)
                      obtain ⟨ch0, ch1, ch2, ch3, ch4, ch5, ch6, ch7, ch8, ch9, ch10, ch11, -, kh⟩ := BoxV.a12 nh
                      clear nh
                      have np := bb_p.out.ext (show Ext f19 f20 from Ext.go)
                      obtain ⟨cp0, cp1, cp2, cp3, cp4, cp5, cp6, cp7, cp8, cp9, cp10, cp11, -, kp⟩ := BoxV.a12 np
                      clear np
                      have nq := bb_q.out.ext (show Ext f19 f20 from Ext.go)
                      obtain ⟨cq0, cq1, cq2, cq3, cq4, cq5, cq6, cq7, cq8, cq9, cq10, cq11, -, kq⟩ := BoxV.a12 nq
                      clear nq
                      iterate 7 ((refine wpF_pure (v := ?_) rfl rfl (by rfl) ?_ ?_; rotate_left; (focus (intro ws hws; go_simp; (try with_reducible rfl); done))); try simp only [nrm, nrg])
                      (refine wpF_pure (v := ?_) rfl rfl (by rfl) ?_ ?_; rotate_left; (focus (intro ws hws; obtain ⟨q0, p0⟩ := hws.row (k := f16.heap.size) xpf; go_simp; (try with_reducible rfl); done)))
                      try simp only [nrm, nrg]
                      (refine wpF_pure (v := ?_) rfl rfl (by rfl) ?_ ?_; rotate_left; (focus (intro ws hws; obtain ⟨q0, p0⟩ := hws.row (k := f17.heap.size) xpf; go_simp; (try with_reducible rfl); done)))
                      try simp only [nrm, nrg]
                      (refine wpF_call 18 ?_ rfl rfl (by rfl) ?_ ?_; rotate_left; (focus (go_simp; (try with_reducible rfl); done)))
                      refine (eqs_same t5 ⟨j1, j2, j3, j4⟩ ⟨l1, l2, l3, l4⟩ q1 q2 q3 q4 r1 r2 r3 r4 _ (hj5.out.ext Ext.go) (hl5.out.ext Ext.go) htm5.out).mono ?_
                      rintro en f21 ⟨rfl, hf21⟩
                      refine ⟨_, rfl, hf21, ?_⟩
                      try simp only [nrm, nrg]
                      have zf21 := hf21.size
                      (try simp at zf21)
                      replace hf21 : Ext f20 f21 := Ext.trans Ext.go hf21
                      have xf21 : Hid (Ext w f21) := hide (Ext.trans Ext.go hf21)
                      clear ce0 ce1 ce2 ce3 ce4 ce5 ce6 ce7 ce8 ce9 ce10 ce11 ke cf0 cf1 cf2 cf3 cf4 cf5 cf6 cf7 cf8 cf9 cf10 cf11 kf cg0 cg1 cg2 cg3 cg4 cg5 cg6 cg7 cg8 cg9 cg10 cg11 kg ch0 ch1 ch2 ch3 ch4 ch5 ch6 ch7 ch8 ch9 ch10 ch11 kh cp0 cp1 cp2 cp3 cp4 cp5 cp6 cp7 cp8 cp9 cp10 cp11 kp cq0 cq1 cq2 cq3 cq4 cq5 cq6 cq7 cq8 cq9 cq10 cq11 kq
                      have ne := bb_e.out.ext (show Ext f14 f21 from Ext.go)
                      obtain ⟨ce0, ce1, ce2, ce3, ce4, ce5, ce6, ce7, ce8, ce9, ce10, ce11, -, ke⟩ := BoxV.a12 ne
                      clear ne
                      have nf := bb_f.out.ext (show Ext f15 f21 from Ext.go)
                      obtain ⟨cf0, cf1, cf2, cf3, cf4, cf5, cf6, cf7, cf8, cf9, cf10, cf11, -, kf⟩ := BoxV.a12 nf
                      clear nf
                      have ng := bb_g.out.ext (show Ext f17 f21 from Ext.go)
                      obtain ⟨cg0, cg1, cg2, cg3, cg4, cg5, cg6, cg7, cg8, cg9, cg10, cg11, -, kg⟩ := BoxV.a12 ng
                      clear ng
                      have nh := bb_h.out.ext (show Ext f18 f21 from Ext.go)
                      obtain ⟨ch0, ch1, ch2, ch3, ch4, ch5, ch6, ch7, ch8, ch9, ch10, ch11, -, kh⟩ := BoxV.a12 nh
                      clear nh
                      have np := bb_p.out.ext (show Ext f19 f21 from Ext.go)
                      obtain ⟨cp0, cp1, cp2, cp3, cp4, cp5, cp6, cp7, cp8, cp9, cp10, cp11, -, kp⟩ := BoxV.a12 np
                      clear np
                      have nq := bb_q.out.ext (show Ext f19 f21 from Ext.go)
                      obtain ⟨cq0, cq1, cq2, cq3, cq4, cq5, cq6, cq7, cq8, cq9, cq10, cq11, -, kq⟩ := BoxV.a12 nq
                      clear nq
                      iterate 2 ((refine wpF_pure (v := ?_) rfl rfl (by rfl) ?_ ?_; rotate_left; (focus (intro ws hws; go_simp; (try with_reducible rfl); done))); try simp only [nrm, nrg])
                      (refine wpF_pure (v := ?_) rfl rfl (by rfl) ?_ ?_; rotate_left; (focus (intro ws hws; obtain ⟨q0, p0⟩ := hws.row (k := f18.heap.size) xpf; go_simp; (try with_reducible rfl); done)))
                      try simp only [nrm, nrg]
                      (refine wpF_pure (v := ?_) rfl rfl (by rfl) ?_ ?_; rotate_left; (focus (intro ws hws; obtain ⟨q0, p0⟩ := hws.row (k := f18.heap.size + 1) xpf; go_simp; (try with_reducible rfl); done)))
                      try simp only [nrm, nrg]
                      (refine wpF_pure (v := ?_) rfl rfl (by rfl) ?_ ?_; rotate_left; (focus (intro ws hws; obtain ⟨q0, p0⟩ := hws.row (k := f18.heap.size) xpf; go_simp; (try with_reducible rfl); done)))
                      try simp only [nrm, nrg]
                      (refine wpF_pure (v := ?_) rfl rfl (by rfl) ?_ ?_; rotate_left; (focus (intro ws hws; obtain ⟨q0, p0⟩ := hws.row (k := f18.heap.size + 1) xpf; go_simp; (try with_reducible rfl); done)))
                      try simp only [nrm, nrg]
                      (refine wpF_call 33 ?_ rfl rfl (by rfl) ?_ ?_; rotate_left; (focus (go_simp; (try with_reducible rfl); done)))
                      refine (EqualSenders_impl s6.st s6.z s6.b s6.e s6.fi s6.fk s6.se s6.co s7.st s7.z s7.b s7.e s7.fi s7.fk s7.se s7.co a6r a6p a6f a6k ca cb cc cd a7r a7p a7f a7k ce cf cg ch s6.xs s6.p s6.f s6.k s7.xs s7.p s7.f s7.k _ (hr6.out.ext Ext.go) (hr7.out.ext Ext.go) (by omega)).mono ?_
                      rintro en f22 ⟨rfl, hf22⟩
                      refine ⟨_, rfl, hf22, ?_⟩
                      try simp only [nrm, nrg]
                      obtain ⟨EQ, hEQ⟩ : ∃ q, Hid (sndEq s6.st s6.z s6.b s6.e s6.fi s6.fk s6.se s6.co s7.st s7.z s7.b s7.e s7.fi s7.fk s7.se s7.co ⟨s6.xs, s6.p, s6.f, s6.k⟩ ⟨s7.xs, s7.p, s7.f, s7.k⟩ = q) := ⟨_, hide rfl⟩
                      rw [hEQ.out]
                      have zf22 := hf22.size
                      (try simp at zf22)
                      replace hf22 : Ext f21 f22 := Ext.trans Ext.go hf22
                      have xf22 : Hid (Ext w f22) := hide (Ext.trans Ext.go hf22)
                      clear ce0 ce1 ce2 ce3 ce4 ce5 ce6 ce7 ce8 ce9 ce10 ce11 ke cf0 cf1 cf2 cf3 cf4 cf5 cf6 cf7 cf8 cf9 cf10 cf11 kf cg0 cg1 cg2 cg3 cg4 cg5 cg6 cg7 cg8 cg9 cg10 cg11 kg ch0 ch1 ch2 ch3 ch4 ch5 ch6 ch7 ch8 ch9 ch10 ch11 kh cp0 cp1 cp2 cp3 cp4 cp5 cp6 cp7 cp8 cp9 cp10 cp11 kp cq0 cq1 cq2 cq3 cq4 cq5 cq6 cq7 cq8 cq9 cq10 cq11 kq
                      have ne := bb_e.out.ext (show Ext f14 f22 from Ext.go)
                      obtain ⟨ce0, ce1, ce2, ce3, ce4, ce5, ce6, ce7, ce8, ce9, ce10, ce11, -, ke⟩ := BoxV.a12 ne
                      clear ne
                      have nf := bb_f.out.ext (show Ext f15 f22 from Ext.go)
                      obtain ⟨cf0, cf1, cf2, cf3, cf4, cf5, cf6, cf7, cf8, cf9, cf10, cf11, -, kf⟩ := BoxV.a12 nf
                      clear nf
                      have ng := bb_g.out.ext (show Ext f17 f22 from Ext.go)
                      obtain ⟨cg0, cg1, cg2, cg3, cg4, cg5, cg6, cg7, cg8, cg9, cg10, cg11, -, kg⟩ := BoxV.a12 ng
                      clear ng
                      have nh := bb_h.out.ext (show Ext f18 f22 from Ext.go)
                      obtain ⟨ch0, ch1, ch2, ch3, ch4, ch5, ch6, ch7, ch8, ch9, ch10, ch11, -, kh⟩ := BoxV.a12 nh
                      clear nh
                      have np := bb_p.out.ext (show Ext f19 f22 from Ext.go)
                      obtain ⟨cp0, cp1, cp2, cp3, cp4, cp5, cp6, cp7, cp8, cp9, cp10, cp11, -, kp⟩ := BoxV.a12 np
                      clear np
                      have nq := bb_q.out.ext (show Ext f19 f22 from Ext.go)
                      obtain ⟨cq0, cq1, cq2, cq3, cq4, cq5, cq6, cq7, cq8, cq9, cq10, cq11, -, kq⟩ := BoxV.a12 nq
                      clear nq
                      (refine wpF_call 18 ?_ rfl rfl (by rfl) ?_ ?_; rotate_left; (focus (go_simp; (try with_reducible rfl); done)))
                      refine (EqualSenders_spec s6.st s6.z s6.b s6.e s6.fi s6.fk s6.se s6.co s7.st s7.z s7.b s7.e s7.fi s7.fk s7.se s7.co a6r a6p a6f a6k ca cb cc cd a7r a7p a7f a7k ce cf cg ch s6.xs s6.p s6.f s6.k s7.xs s7.p s7.f s7.k _ (hr6.out.ext Ext.go) (hr7.out.ext Ext.go) (by omega)).mono ?_
                      rintro en f23 ⟨rfl, hf23⟩
                      refine ⟨_, rfl, hf23, ?_⟩
                      try simp only [nrm, nrg]
                      rw [hEQ.out]
                      have zf23 := hf23.size
                      (try simp at zf23)
                      replace hf23 : Ext f22 f23 := Ext.trans Ext.go hf23
                      have xf23 : Hid (Ext w f23) := hide (Ext.trans Ext.go hf23)
                      clear ce0 ce1 ce2 ce3 ce4 ce5 ce6 ce7 ce8 ce9 ce10 ce11 ke cf0 cf1 cf2 cf3 cf4 cf5 cf6 cf7 cf8 cf9 cf10 cf11 kf cg0 cg1 cg2 cg3 cg4 cg5 cg6 cg7 cg8 cg9 cg10 cg11 kg ch0 ch1 ch2 ch3 ch4 ch5 ch6 ch7 ch8 ch9 ch10 ch11 kh cp0 cp1 cp2 cp3 cp4 cp5 cp6 cp7 cp8 cp9 cp10 cp11 kp cq0 cq1 cq2 cq3 cq4 cq5 cq6 cq7 cq8 cq9 cq10 cq11 kq
                      have ne := bb_e.out.ext (show Ext f14 f23 from Ext.go)
                      obtain ⟨ce0, ce1, ce2, ce3, ce4, ce5, ce6, ce7, ce8, ce9, ce10, ce11, -, ke⟩ := BoxV.a12 ne
                      clear ne
                      have nf := bb_f.out.ext (show Ext f15 f23 from Ext.go)
                      obtain ⟨cf0, cf1, cf2, cf3, cf4, cf5, cf6, cf7, cf8, cf9, cf10, cf11, -, kf⟩ := BoxV.a12 nf
                      clear nf
                      have ng := bb_g.out.ext (show Ext f17 f23 from Ext.go)
                      obtain ⟨cg0, cg1, cg2, cg3, cg4, cg5, cg6, cg7, cg8, cg9, cg10, cg11, -, kg⟩ := BoxV.a12 ng
                      clear ng
                      have nh := bb_h.out.ext (show Ext f18 f23 from Ext.go)
                      obtain ⟨ch0, ch1, ch2, ch3, ch4, ch5, ch6, ch7, ch8, ch9, ch10, ch11, -, kh⟩ := BoxV.a12 nh
                      clear nh
                      have np := bb_p.out.ext (show Ext f19 f23 from Ext.go)
                      obtain ⟨cp0, cp1, cp2, cp3, cp4, cp5, cp6, cp7, cp8, cp9, cp10, cp11, -, kp⟩ := BoxV.a12 np
                      clear np
                      have nq := bb_q.out.ext (show Ext f19 f23 from Ext.go)
                      obtain ⟨cq0, cq1, cq2, cq3, cq4, cq5, cq6, cq7, cq8, cq9, cq10, cq11, -, kq⟩ := BoxV.a12 nq
                      clear nq
                      iterate 5 ((refine wpF_pure (v := ?_) rfl rfl (by rfl) ?_ ?_; rotate_left; (focus (intro ws hws; go_simp; (try with_reducible rfl); done))); try simp only [nrm, nrg])
                      (refine wpF_call 34 ?_ rfl rfl (by rfl) ?_ ?_; rotate_left; (focus (go_simp; (try with_reducible rfl); done)))
                      refine (SendName_impl nm _ hnm).mono ?_
                      rintro en f24 ⟨rfl, hf24⟩
                      refine ⟨_, rfl, hf24, ?_⟩
                      try simp only [nrm, nrg]
                      have zf24 := hf24.size
                      (try simp at zf24)
                      replace hf24 : Ext f23 f24 := Ext.trans Ext.go hf24
                      have xf24 : Hid (Ext w f24) := hide (Ext.trans Ext.go hf24)
                      clear ce0 ce1 ce2 ce3 ce4 ce5 ce6 ce7 ce8 ce9 ce10 ce11 ke cf0 cf1 cf2 cf3 cf4 cf5 cf6 cf7 cf8 cf9 cf10 cf11 kf cg0 cg1 cg2 cg3 cg4 cg5 cg6 cg7 cg8 cg9 cg10 cg11 kg ch0 ch1 ch2 ch3 ch4 ch5 ch6 ch7 ch8 ch9 ch10 ch11 kh cp0 cp1 cp2 cp3 cp4 cp5 cp6 cp7 cp8 cp9 cp10 cp11 kp cq0 cq1 cq2 cq3 cq4 cq5 cq6 cq7 cq8 cq9 cq10 cq11 kq
                      refine wpF_done rfl ?_
                      simp only [List.drop_succ_cons, List.drop_zero, List.drop_nil]
                      go_wp2_with fail
                      refine (SendName_spec nm _ hnm).mono ?_
                      rintro en f25 ⟨rfl, hf25⟩
                      generalize sName nm = NM at *
                      have zf25 := hf25.size
                      (try simp at zf25)
                      replace hf25 : Ext f24 f25 := Ext.trans Ext.go hf25
                      have xf25 : Hid (Ext w f25) := hide (Ext.trans Ext.go hf25)
                      go_wp2
                      go_ret
                      exact ⟨rfl, Ext.go⟩
theorem senders_reads : ∀ t ∈ Try.f4.params.toList, Try.prog.readableRec t = true ∧ t < Try.prog.types.size := by
  rw [Try.params4]
  intro t ht
  simp only [List.mem_cons, List.not_mem_nil, or_false] at ht
  subst ht
  exact ⟨by kernel_rfl, of_decide_eq_true (by kernel_rfl)⟩
set_option maxRecDepth 100000 in
theorem senders_lifted (os : Os) (started : os.Started) (H : Type) (enc : TypeId × Value → H) :
    ReturnsInHanded {} Try.checked os 4 .any (Rows.fnSendersSpec.pre6 enc Try.prog Try.f4 Rows.fnSendersRow.domain false) (Rows.fnSendersSpec.post enc Try.prog Try.f4 false true false false) := by
  refine returnsInHanded_of_change (C := Try.checked) ownKnobNone started (by kernel_rfl) Try.func4
    (ChangeSpec.witness6 (enc := enc) (C := Try.checked) false ⟨#[], #[.slice none 0 0], []⟩ 8 (by kernel_rfl) (by kernel_rfl) (by kernel_rfl) (by kernel_rfl)) ?_
  intro W base args ds gs before hval0 hW hcnd _
  have hval : ∀ (j : Nat) t v, Try.f4.params[j]? = some t → args[j]? = some v → Value.okWide Try.prog W .any base t v := hval0
  have hW' := hW
  obtain ⟨p, q, hA0, hV, rfl, hfz, hnd⟩ := hW
  have hA : DataW.TrodAll enc Try.prog W 0 (fun _ => true) true Try.f4.params.toList args.toList ds p := hA0
  rw [Try.params4] at hA hval
  obtain ⟨v0, vs0, d0, ds0, p0, q0, hargs, rfl, rfl, h0, r0⟩ := trodAll_cons hA
  obtain ⟨rfl, rfl, rfl⟩ := trodAll_nil r0
  obtain rfl : args = #[v0] := by cases args; simp_all
  obtain ⟨ao, len, cap, rfl, hcode⟩ := open_code Try.underlying39 Try.underlying5 (by kernel_rfl) (hval 0 39 v0 rfl rfl) h0
  refine (senders_walk ao len cap W hcode).mono fun e W' ⟨he, hg⟩ => ?_
  subst he
  exact ⟨_, rfl, law_post laidOut senders_reads rfl rfl Try.underlying4 hW' (fun gs h => by subst h; rfl) hg⟩
theorem senders_over : Rows.fnSendersRow.holds Try.pinned (OpenSpec.ofChange Rows.fnSendersSpec) :=
  OpenClaim.holds_of_wide 4 Try.f4 rfl rfl rfl rfl rfl rfl rfl ⟨rfl, rfl, rfl, rfl, rfl⟩ rfl rfl rfl rfl rfl (by kernel_rfl) Try.func4 (by kernel_rfl)
    (of_decide_eq_true (by kernel_rfl)) (by unfold Func.isWrapper; first | (rw [if_pos (by decide +kernel)]; kernel_rfl) | (rw [if_neg (by decide +kernel)]; exact ⟨rfl, rfl⟩))
    (fun os started H enc _ => senders_lifted os started H enc)
/-- The statement. -/
theorem senders_holds : Rows.FnSendersSaid := senders_over
end
end Go.Proofs.Ytjhgcbchdnoleaa
