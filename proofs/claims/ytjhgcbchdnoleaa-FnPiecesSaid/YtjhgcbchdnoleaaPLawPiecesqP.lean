/-
  The law FnPieces holds of every code. No condition.
-/
import Derived.Deep.DeepCutAuto
import Derived.Test.YtjhgcbchdnoleaaPSnZPqP
import Derived.Test.YtjhgcbchdnoleaaPSnTqP
namespace Go.Proofs.Ytjhgcbchdnoleaa
section
open Go.ChangeShapes Go.WideShapes Go.ChangeAt Go.RowKit
set_option linter.unusedSimpArgs false
set_option linter.unusedVariables false
/-- What a step leaves is small. -/
structure SnSm (s : Sn) : Prop where
  x : s.xs.length ≤ 1000
  p : s.p.length ≤ 3000
  f : s.f.length ≤ 3000
  k : s.k.length ≤ 3000
  e : -1 ≤ s.e ∧ s.e ≤ 1000
theorem SnAny.sm {s : Sn} (h : SnAny s) : SnSm s := ⟨by have := h.len; omega, by have := h.p; omega, by have := h.f; omega, by have := h.k; omega, by have := h.e; omega⟩
theorem addR_len (l : List Rg) (r : Rg) : (addR l r).length ≤ l.length + 1 := by
  have := fold_len [r] l
  simpa using this
theorem remR_len (l : List Rg) (r : Rg) : (remR l r).length ≤ 2 * l.length := by
  unfold remR
  split
  · exact remRec_length r l
  · omega
theorem SnAny.sePc {s : Sn} (h : SnAny s) (v : Bool) (o : Int) (d : ByteArray) (fin : Bool) : SnSm (seX v s o d fin) := by
  unfold seX
  split
  · have h1 := h.len
    have h2 := h.p
    have h3 := h.f
    have h4 := h.k
    have h5 := h.e
    refine ⟨by show s.xs.length ≤ 1000; omega, ?_, ?_, by show s.k.length ≤ 3000; omega, by show -1 ≤ s.e ∧ s.e ≤ 1000; omega⟩
    · show (if d.size = 0 then s.p else remR s.p (o, o + d.size)).length ≤ 3000
      have := remR_len s.p (o, o + d.size)
      split <;> omega
    · show (if d.size = 0 then s.f else addR s.f (o, o + d.size)).length ≤ 3000
      have := addR_len s.f (o, o + d.size)
      split <;> omega
  · exact h.sm
theorem sndEq_refl (s : Sn) : sndEq s.st s.z s.b s.e s.fi s.fk s.se s.co s.st s.z s.b s.e s.fi s.fk s.se s.co ⟨s.xs, s.p, s.f, s.k⟩ ⟨s.xs, s.p, s.f, s.k⟩ = true := by
  simp [sndEq, ringEq]
/-- Two readings of one sender are equal. -/
theorem eqs_same (s : Sn) (a g : Ads) (c1 c2 c3 c4 k1 k2 k3 k4 : Nat) (w : World) (hx : ReadSnd w a ⟨s.xs, s.p, s.f, s.k⟩) (hy : ReadSnd w g ⟨s.xs, s.p, s.f, s.k⟩) (h : SnSm s) :
    Calls Try.prog 18 #[.agg #[.int .i64 s.st, .int .i64 s.z, .int .i64 s.b, .int .i64 s.e, .slice a.r s.xs.length c1, .slice a.p s.p.length c2, .slice a.f s.f.length c3, .slice a.k s.k.length c4, .int .i64 s.fi, .int .i64 s.fk, .int .i64 s.se, .int .i64 s.co], .agg #[.int .i64 s.st, .int .i64 s.z, .int .i64 s.b, .int .i64 s.e, .slice g.r s.xs.length k1, .slice g.p s.p.length k2, .slice g.f s.f.length k3, .slice g.k s.k.length k4, .int .i64 s.fi, .int .i64 s.fk, .int .i64 s.se, .int .i64 s.co]] w fun en w' => en = .returned (.bool true) ∧ Ext w w' := by
  obtain ⟨ar, ap, af, ak⟩ := a
  obtain ⟨gr, gp, gf, gk⟩ := g
  have := EqualSenders_spec s.st s.z s.b s.e s.fi s.fk s.se s.co s.st s.z s.b s.e s.fi s.fk s.se s.co ar ap af ak c1 c2 c3 c4 gr gp gf gk k1 k2 k3 k4 s.xs s.p s.f s.k s.xs s.p s.f s.k w hx hy (by have := h.x; have := h.p; have := h.f; have := h.k; omega)
  rw [sndEq_refl] at this
  exact this
theorem se_valid {s : Sn} {o : Int} {d : ByteArray} {fin : Bool} (hV : actV (sndS s) s = true → Vld s) (he : s.e ≤ 1000) (h : seOk (sndS s) s o d fin = true) : sndS (seX (sndS s) s o d fin) = true ∧ sndI (seX (sndS s) s o d fin) = true := by
  rw [seX_yes h]
  obtain ⟨h1, h2, h3, h4⟩ := seOk_parts h
  have hp := pieceIn_bd h2
  have hv := se_act (hV h1) hp.1 hp.2 h4 h3
  have he2 : (seV s o d.size fin).e ≤ 1152921504606846976 := by show s.e ≤ _; omega
  exact ⟨snd_valid he2 (hv.sndI he2), hv.sndI he2⟩
theorem gap_acked {s : Sn} (h : Vld s) {n : Int} (h0 : 0 ≤ n) (h1 : n < s.b) : inR s.k n := by
  have hg := h.gap
  unfold gapR at hg
  rw [if_pos ⟨h.hd.rk, Int.le_refl _⟩] at hg
  have := (gap_in (g := 0) (rgsFrom_can h.hd.rk).1).1 n h0
  rw [hg] at this
  exact this h1
theorem pk_whole {s : Sn} {m l : Int} (hV : actV (sndS s) s = true → Vld s) (he : s.e ≤ 1000) (hb : nxB (sndS s) s m l = true) : ∃ (o : Int) (d : ByteArray) (fin : Bool), nxP (sndS s) s m l = ⟨o, d, fin⟩ ∧ pkS ⟨s.z, s.b, s.e, s.xs⟩ o d.size = d ∧ pkOk ⟨s.z, s.b, s.e, s.xs⟩ o d.size = true ∧ (d.size : Int) ≤ max m 0 ∧ (0 < d.size → o + (d.size : Int) ≤ l) ∧ (fin = true → o + (d.size : Int) = s.fi) ∧ seOk (sndS s) s o d fin = true := by
  have hv : actV (sndS s) s = true := by
    simp only [nxB, Bool.and_eq_true] at hb
    exact hb.1
  have h := hV hv
  obtain ⟨e0, e1⟩ := h.e_nat
  have hrb := isRing_bd h.hd.ring
  cases hp : s.p with
  | nil =>
    have hf : s.fk = 1 := by
      simp only [nxB, hp, hv, Bool.true_and, decide_eq_true_eq] at hb
      exact hb
    have hfi : s.fi = s.e := by
      have := h.fi
      rw [if_neg (by omega)] at this
      exact this
    have hk : pkOk ⟨s.z, s.b, s.e, s.xs⟩ s.fi ((ByteArray.mk #[]).size : Nat) = true := by
      simp only [pkOk, peekOk, h.hd.ring, Bool.true_and, Bool.and_eq_true, decide_eq_true_eq]
      refine ⟨?_, by decide, ?_⟩
      · rw [hfi]; simp [inB]; omega
      · rw [hfi]; show (0 : Int) ≤ _; omega
    refine ⟨s.fi, ⟨#[]⟩, true, (nx_nil1 hv hp hf).1, ?_, hk, ?_, fun h0 => absurd h0 (by decide), fun _ => ?_, ?_⟩
    · unfold pkS; rw [if_pos hk]; rfl
    · show (0 : Int) ≤ _; omega
    · show s.fi + 0 = s.fi; omega
    · refine seOk_y hv ?_ (fun _ => rfl) (fun _ => hf) (fun h0 => absurd rfl h0)
      simp only [pieceIn, Bool.and_eq_true, decide_eq_true_eq, Bool.or_eq_true]
      refine ⟨by omega, by omega, ?_, Or.inr ?_⟩
      · rw [hfi]; show (0 : Int) ≤ _; omega
      · show s.fi + 0 = s.fi; omega
  | cons r t =>
    have hn : 0 < nxN r m l := by
      simp only [nxB, hp, hv, Bool.true_and, decide_eq_true_eq] at hb
      exact hb
    obtain ⟨n, hnn⟩ : ∃ n : Nat, nxN r m l = (n : Int) := ⟨(nxN r m l).toNat, by omega⟩
    have hN := hnn
    unfold nxN at hN
    obtain ⟨t1, t2, t3⟩ := whole_tops h.hd.rp h.hd.rf h.hd.rk (fun n hn => ((h.wh.1 n).1 hn).2)
    have hr2 : r.2 ≤ s.e := t1 r (by rw [hp]; simp)
    have hr1 := rgs_mem h.hd.rp (r := r) (by rw [hp]; simp)
    have hin : ∀ x, r.1 ≤ x → x < r.2 → inR s.p x := fun x h1 h2 => ⟨r, by rw [hp]; simp, h1, h2⟩
    have hbr : s.b ≤ r.1 := by
      rcases Int.lt_or_le r.1 s.b with hh | hh
      · exact absurd ⟨hin r.1 (Int.le_refl _) hr1.2, gap_acked h hr1.1 hh⟩ (h.wh.2 r.1).2.1
      · exact hh
    have hk : pkOk ⟨s.z, s.b, s.e, s.xs⟩ r.1 n = true := by
      simp only [pkOk, peekOk, h.hd.ring, Bool.true_and, Bool.and_eq_true, decide_eq_true_eq]
      refine ⟨?_, by omega, by omega⟩
      simp [inB]; omega
    have hsz : (pkS ⟨s.z, s.b, s.e, s.xs⟩ r.1 n).size = n := by
      unfold pkS
      rw [if_pos hk, peekS_size]
      omega
    refine ⟨r.1, pkS ⟨s.z, s.b, s.e, s.xs⟩ r.1 n, decide (s.fk = 1) && decide (r.1 + n = s.fi), (nx_some hv hp hnn (by omega)).1, ?_, ?_, ?_, fun _ => ?_, fun hf => ?_, ?_⟩
    · rw [hsz]
    · rw [hsz]; exact hk
    · rw [hsz]; omega
    · rw [hsz]; omega
    · rw [hsz]
      simp only [Bool.and_eq_true, decide_eq_true_eq] at hf
      exact hf.2
    · refine seOk_y hv ?_ (fun h0 => by rw [hsz] at h0; omega) (fun hf => ?_) (fun _ => ?_)
      · rw [hsz]
        simp only [pieceIn, Bool.and_eq_true, decide_eq_true_eq, Bool.or_eq_true, Bool.not_eq_true']
        refine ⟨by omega, by omega, by omega, ?_⟩
        by_cases e1 : s.fk = 1 <;> by_cases e2 : r.1 + (n : Int) = s.fi <;> simp [e1, e2]
      · simp only [Bool.and_eq_true, decide_eq_true_eq] at hf
        exact hf.1
      · rw [hsz]
        have hfr : rgFine (r.1, r.1 + (n : Int)) = true := by simp only [rgFine, Bool.and_eq_true, decide_eq_true_eq]; omega
        obtain ⟨c1, c2⟩ := com_rgs h.hd.rp hfr
        refine can_ext (rgsFrom_can c1).1 (show CanR 0 [(r.1, r.1 + (n : Int))] from ⟨hr1.1, by show r.1 < r.1 + (n : Int); omega, trivial⟩) (fun x => ?_)
        rw [c2]
        constructor
        · rintro ⟨-, h1, h2⟩; exact ⟨_, by simp, h1, h2⟩
        · rintro ⟨q, hq, h1, h2⟩
          obtain rfl := List.mem_singleton.1 hq
          dsimp only at h1 h2
          exact ⟨hin x h1 (by omega), h1, h2⟩
set_option maxHeartbeats 8000000 in
set_option maxRecDepth 100000 in
theorem pieces_walk (ao : Option Addr) (len cap : Nat) (w : World) (hc : len ≤ 1048576 → CodeAt w w.heap.size (.slice ao len cap)) :
    Calls Try.prog 6 #[.slice ao len cap] w fun e w' => e = .returned (.bool true) ∧ Ext w w' := by
  by_cases hbig : (1048576 : Int) < len
  · have hbd : decide ((1048576 : Int) < len) = true := decide_eq_true hbig
    go_enter Try.func6, Try.ntmps6
    go_wp2_with fail
    refine (big_any ao len cap _).mono ?_
    rintro e _ ⟨rfl, rfl⟩
    go_wp2
    go_ret
    exact ⟨rfl, Ext.refl _⟩
  have hbd : decide ((1048576 : Int) < len) = false := decide_eq_false hbig
  replace hc := hc (by omega)
  clear hbig
  go_enter Try.func6, Try.ntmps6
  go_wp2_with fail
  refine (big_any ao len cap _).mono ?_
  rintro e _ ⟨rfl, rfl⟩
  go_wp2_with fail
  refine (DrawNextPiece_any _ _ hc).mono ?_
  rintro en w1 ⟨s, a, c1, c2, c3, c4, m, l, rfl, hok, hm, hlm, hr, hw1⟩
  have hn := hok.len
  have hn1 := hok.p
  have hn2 := hok.f
  have hn3 := hok.k
  have hn4 := hok.e
  have hsm := hide hok.same
  have hV := hide (fun (h : actV (sndS s) s = true) => any_vld hok h)
  replace hok := hide hok
  replace hr := hide hr
  obtain ⟨⟨o, d, fin⟩, hP⟩ : ∃ P, Hid (nxP (sndS s) s m l = P) := ⟨_, hide rfl⟩
  obtain ⟨is, hI⟩ : ∃ q, Hid (nxB (sndS s) s m l = q) := ⟨_, hide rfl⟩
  have hnb := nx_bd (m := m) (l := l) hV.out (by omega)
  rw [hP.out] at hnb
  dsimp only at hnb
  have zw1 := hw1.size
  (try simp at zw1)
  replace hw1 : Ext w w1 := Ext.trans Ext.go hw1
  have xw1 : Hid (Ext w w1) := hide (Ext.trans Ext.go hw1)
  go_wp2_with fail
  refine (NextPiece_impl s a c1 c2 c3 c4 m l _ (hr.out.ext Ext.go) (by omega) (by omega) (by omega) (by omega) (by omega)).mono ?_
  rintro en w2 ⟨rfl, hw2⟩
  rw [hsm.out, hP.out, hI.out]
  dsimp only
  have zw2 := hw2.size
  (try simp at zw2)
  have bb_s := hide (BoxV.ext (BoxV.new w1 [.int .i64 s.st, .int .i64 s.z, .int .i64 s.b, .int .i64 s.e, .slice a.r s.xs.length c1, .slice a.p s.p.length c2, .slice a.f s.f.length c3, .slice a.k s.k.length c4, .int .i64 s.fi, .int .i64 s.fk, .int .i64 s.se, .int .i64 s.co] 32) (Ext.trans Ext.go hw2))
  replace hw2 : Ext w1 w2 := Ext.trans Ext.go hw2
  have xw2 : Hid (Ext w w2) := hide (Ext.trans Ext.go hw2)
  have ns := bb_s.out
  have cs0 := ns.c 0 _ rfl
  have cs1 := ns.c 1 _ rfl
  have cs2 := ns.c 2 _ rfl
  have cs3 := ns.c 3 _ rfl
  have cs4 := ns.c 4 _ rfl
  have cs5 := ns.c 5 _ rfl
  have cs6 := ns.c 6 _ rfl
  have cs7 := ns.c 7 _ rfl
  have cs8 := ns.c 8 _ rfl
  have cs9 := ns.c 9 _ rfl
  have cs10 := ns.c 10 _ rfl
  have cs11 := ns.c 11 _ rfl
  have ks : w1.heap.size < w2.heap.size := ns.lt
  clear ns
  go_wp2_with fail
  refine (NextPiece_spec s a c1 c2 c3 c4 m l _ (hr.out.ext Ext.go) (by omega) (by omega) (by omega) (by omega) (by omega)).mono ?_
  rintro en w3 ⟨rfl, hw3⟩
  rw [hP.out, hI.out]
  dsimp only
  have zw3 := hw3.size
  (try simp at zw3)
  have bb_p := hide (BoxV.ext (BoxV.new w2 [.int .i64 o, .string d, .bool fin] 55) (Ext.trans Ext.go hw3))
  replace hw3 : Ext w2 w3 := Ext.trans Ext.go hw3
  have xw3 : Hid (Ext w w3) := hide (Ext.trans Ext.go hw3)
  clear cs0 cs1 cs2 cs3 cs4 cs5 cs6 cs7 cs8 cs9 cs10 cs11 ks
  have ns := bb_s.out.ext (show Ext w2 w3 from Ext.go)
  have cs0 := ns.c 0 _ rfl
  have cs1 := ns.c 1 _ rfl
  have cs2 := ns.c 2 _ rfl
  have cs3 := ns.c 3 _ rfl
  have cs4 := ns.c 4 _ rfl
  have cs5 := ns.c 5 _ rfl
  have cs6 := ns.c 6 _ rfl
  have cs7 := ns.c 7 _ rfl
  have cs8 := ns.c 8 _ rfl
  have cs9 := ns.c 9 _ rfl
  have cs10 := ns.c 10 _ rfl
  have cs11 := ns.c 11 _ rfl
  have ks : w1.heap.size < w3.heap.size := ns.lt
  clear ns
  have np := bb_p.out
  have cp0 := np.c 0 _ rfl
  have cp1 := np.c 1 _ rfl
  have cp2 := np.c 2 _ rfl
  have kp : w2.heap.size < w3.heap.size := np.lt
  clear np
  go_upto_if 50 with fail
  obtain ⟨w4, h0w4⟩ : ∃ u, u = (w3.alloc (.cells #[.int .i64 o, .string d, .bool fin] 55)) := ⟨_, rfl⟩
  rw [← h0w4]
  have hw4 : Ext (w3.alloc (.cells #[.int .i64 o, .string d, .bool fin] 55)) w4 := h0w4 ▸ Ext.refl _
  clear h0w4
  have zw4 := hw4.size
  (try simp at zw4)
  have bb_q := hide (BoxV.ext (BoxV.new w3 [.int .i64 o, .string d, .bool fin] 55) (Ext.trans Ext.go hw4))
  replace hw4 : Ext w3 w4 := Ext.trans Ext.go hw4
  have xw4 : Hid (Ext w w4) := hide (Ext.trans Ext.go hw4)
  clear cs0 cs1 cs2 cs3 cs4 cs5 cs6 cs7 cs8 cs9 cs10 cs11 ks cp0 cp1 cp2 kp
  go_cut [] (fun wx => Ext w4 wx)
  case first =>
    as_aux_lemma =>
      cases is
      · go_wp2_with fail
        go_meet
        exact Ext.refl _
      · skip
        have ns := bb_s.out.ext (show Ext w2 w4 from Ext.go)
        have cs0 := ns.c 0 _ rfl
        have cs1 := ns.c 1 _ rfl
        have cs2 := ns.c 2 _ rfl
        have cs3 := ns.c 3 _ rfl
        have cs4 := ns.c 4 _ rfl
        have cs5 := ns.c 5 _ rfl
        have cs6 := ns.c 6 _ rfl
        have cs7 := ns.c 7 _ rfl
        have cs8 := ns.c 8 _ rfl
        have cs9 := ns.c 9 _ rfl
        have cs10 := ns.c 10 _ rfl
        have cs11 := ns.c 11 _ rfl
        have ks : w1.heap.size < w4.heap.size := ns.lt
        clear ns
        have np := bb_p.out.ext (show Ext w3 w4 from Ext.go)
        have cp0 := np.c 0 _ rfl
        have cp1 := np.c 1 _ rfl
        have cp2 := np.c 2 _ rfl
        have kp : w2.heap.size < w4.heap.size := np.lt
        clear np
        have nq := bb_q.out
        have cq0 := nq.c 0 _ rfl
        have cq1 := nq.c 1 _ rfl
        have cq2 := nq.c 2 _ rfl
        have kq : w3.heap.size < w4.heap.size := nq.lt
        clear nq
        obtain ⟨o', d', fin', hP', hpk, hpo, hb1, hb2, hb3, hse⟩ := pk_whole hV.out (by omega) hI.out
        rw [hP.out] at hP'
        obtain ⟨rfl, rfl, rfl⟩ : o = o' ∧ d = d' ∧ fin = fin' := by injection hP' with e1 e2 e3; exact ⟨e1, e2, e3⟩
        clear hP'
        replace hpk := hide hpk
        replace hpo := hide hpo
        replace hb2 := hide hb2
        replace hb3 := hide hb3
        replace hse := hide hse
        have hwad : IntKind.i64.wrap (o + (d.size : Int)) = o + (d.size : Int) := IntWalk.i64_in _ (by omega)
        go_wp2_with fail
        refine (pk_spec ⟨s.z, s.b, s.e, s.xs⟩ o d.size a.r c1 _ (hr.out.ext Ext.go).r (by (try dsimp only); omega) (by (try dsimp only); omega)).mono ?_
        rintro en v5 ⟨rfl, hv5⟩
        rw [hpk.out, hpo.out]
        have zv5 := hv5.size
        (try simp at zv5)
        replace hv5 : Ext w4 v5 := Ext.trans Ext.go hv5
        have xv5 : Hid (Ext w v5) := hide (Ext.trans Ext.go hv5)
        clear cs0 cs1 cs2 cs3 cs4 cs5 cs6 cs7 cs8 cs9 cs10 cs11 ks cp0 cp1 cp2 kp cq0 cq1 cq2 kq
        have ns := bb_s.out.ext (show Ext w2 v5 from Ext.go)
        have cs0 := ns.c 0 _ rfl
        have cs1 := ns.c 1 _ rfl
        have cs2 := ns.c 2 _ rfl
        have cs3 := ns.c 3 _ rfl
        have cs4 := ns.c 4 _ rfl
        have cs5 := ns.c 5 _ rfl
        have cs6 := ns.c 6 _ rfl
        have cs7 := ns.c 7 _ rfl
        have cs8 := ns.c 8 _ rfl
        have cs9 := ns.c 9 _ rfl
        have cs10 := ns.c 10 _ rfl
        have cs11 := ns.c 11 _ rfl
        have ks : w1.heap.size < v5.heap.size := ns.lt
        clear ns
        have np := bb_p.out.ext (show Ext w3 v5 from Ext.go)
        have cp0 := np.c 0 _ rfl
        have cp1 := np.c 1 _ rfl
        have cp2 := np.c 2 _ rfl
        have kp : w2.heap.size < v5.heap.size := np.lt
        clear np
        have nq := bb_q.out.ext (show Ext w4 v5 from Ext.go)
        have cq0 := nq.c 0 _ rfl
        have cq1 := nq.c 1 _ rfl
        have cq2 := nq.c 2 _ rfl
        have kq : w3.heap.size < v5.heap.size := nq.lt
        clear nq
        go_wp2_with fail
        refine (SendPiece_impl s a c1 c2 c3 c4 o d fin _ (hr.out.ext Ext.go) (by omega) (by omega) (by omega) (by omega) (by omega)).mono ?_
        rintro en v6 ⟨g1, g2, g3, g4, k1, k2, k3, k4, rfl, owng, hv6⟩
        have hts := hide (hok.out.sePc (sndI s) o d fin)
        rw [hsm.out] at hts owng ⊢
        rw [hse.out]
        have hval := (se_valid hV.out (by omega) hse.out).1
        obtain ⟨t, ht⟩ : ∃ t, Hid (seX (sndS s) s o d fin = t) := ⟨_, hide rfl⟩
        rw [ht.out] at hts owng hval ⊢
        have hrt := hide owng.read
        replace hval := hide hval
        clear owng
        have zv6 := hv6.size
        (try simp at zv6)
        replace hv6 : Ext v5 v6 := Ext.trans Ext.go hv6
        have xv6 : Hid (Ext w v6) := hide (Ext.trans Ext.go hv6)
        clear cs0 cs1 cs2 cs3 cs4 cs5 cs6 cs7 cs8 cs9 cs10 cs11 ks cp0 cp1 cp2 kp cq0 cq1 cq2 kq
        have ns := bb_s.out.ext (show Ext w2 v6 from Ext.go)
        have cs0 := ns.c 0 _ rfl
        have cs1 := ns.c 1 _ rfl
        have cs2 := ns.c 2 _ rfl
        have cs3 := ns.c 3 _ rfl
        have cs4 := ns.c 4 _ rfl
        have cs5 := ns.c 5 _ rfl
        have cs6 := ns.c 6 _ rfl
        have cs7 := ns.c 7 _ rfl
        have cs8 := ns.c 8 _ rfl
        have cs9 := ns.c 9 _ rfl
        have cs10 := ns.c 10 _ rfl
        have cs11 := ns.c 11 _ rfl
        have ks : w1.heap.size < v6.heap.size := ns.lt
        clear ns
        have np := bb_p.out.ext (show Ext w3 v6 from Ext.go)
        have cp0 := np.c 0 _ rfl
        have cp1 := np.c 1 _ rfl
        have cp2 := np.c 2 _ rfl
        have kp : w2.heap.size < v6.heap.size := np.lt
        clear np
        have nq := bb_q.out.ext (show Ext w4 v6 from Ext.go)
        have cq0 := nq.c 0 _ rfl
        have cq1 := nq.c 1 _ rfl
        have cq2 := nq.c 2 _ rfl
        have kq : w3.heap.size < v6.heap.size := nq.lt
        clear nq
        obtain ⟨hts1, hts2, hts3, hts4, hts5⟩ := hts.out
        by_cases hm0 : m < 0
        · skip
          have hdz : decide ((0 : Int) < (d.size : Int)) = false := decide_eq_false (by omega)
          rcases Nat.eq_zero_or_pos d.size with h0 | h0
          · skip
            have hd0 : decide ((0 : Int) < (d.size : Int)) = false := decide_eq_false (by omega)
            have hd0n : decide (0 < d.size) = false := decide_eq_false (by omega)
            replace h0 := hide h0
            cases fin
            · skip
              go_wp2_with fail
              refine (IsSender_spec t ⟨g1, g2, g3, g4⟩ k1 k2 k3 k4 _ (hrt.out.ext Ext.go) (by omega) (by omega) (by omega)).mono ?_
              rintro en v7 ⟨rfl, hv7⟩
              rw [hval.out]
              have zv7 := hv7.size
              (try simp at zv7)
              have bb_x := hide (BoxV.ext (BoxV.new v6 [.int .i64 t.st, .int .i64 t.z, .int .i64 t.b, .int .i64 t.e, .slice g1 t.xs.length k1, .slice g2 t.p.length k2, .slice g3 t.f.length k3, .slice g4 t.k.length k4, .int .i64 t.fi, .int .i64 t.fk, .int .i64 t.se, .int .i64 t.co] 32) (Ext.trans Ext.go hv7))
              replace hv7 : Ext v6 v7 := Ext.trans Ext.go hv7
              have xv7 : Hid (Ext w v7) := hide (Ext.trans Ext.go hv7)
              clear cs0 cs1 cs2 cs3 cs4 cs5 cs6 cs7 cs8 cs9 cs10 cs11 ks cp0 cp1 cp2 kp cq0 cq1 cq2 kq
              go_wp2_with fail
              go_meet
              exact Ext.go
            · skip
              have hfe : (o + (d.size : Int) != s.fi) = false := by have := hb3.out rfl; simp [this]
              go_wp2_with fail
              refine (IsSender_spec t ⟨g1, g2, g3, g4⟩ k1 k2 k3 k4 _ (hrt.out.ext Ext.go) (by omega) (by omega) (by omega)).mono ?_
              rintro en v7 ⟨rfl, hv7⟩
              rw [hval.out]
              have zv7 := hv7.size
              (try simp at zv7)
              have bb_x := hide (BoxV.ext (BoxV.new v6 [.int .i64 t.st, .int .i64 t.z, .int .i64 t.b, .int .i64 t.e, .slice g1 t.xs.length k1, .slice g2 t.p.length k2, .slice g3 t.f.length k3, .slice g4 t.k.length k4, .int .i64 t.fi, .int .i64 t.fk, .int .i64 t.se, .int .i64 t.co] 32) (Ext.trans Ext.go hv7))
              replace hv7 : Ext v6 v7 := Ext.trans Ext.go hv7
              have xv7 : Hid (Ext w v7) := hide (Ext.trans Ext.go hv7)
              clear cs0 cs1 cs2 cs3 cs4 cs5 cs6 cs7 cs8 cs9 cs10 cs11 ks cp0 cp1 cp2 kp cq0 cq1 cq2 kq
              go_wp2_with fail
              go_meet
              exact Ext.go
          · skip
            exfalso
            omega
        · skip
          have hdz : decide ((m : Int) < (d.size : Int)) = false := decide_eq_false (by omega)
          rcases Nat.eq_zero_or_pos d.size with h0 | h0
          · skip
            have hd0 : decide ((0 : Int) < (d.size : Int)) = false := decide_eq_false (by omega)
            have hd0n : decide (0 < d.size) = false := decide_eq_false (by omega)
            replace h0 := hide h0
            cases fin
            · skip
              go_wp2_with fail
              refine (IsSender_spec t ⟨g1, g2, g3, g4⟩ k1 k2 k3 k4 _ (hrt.out.ext Ext.go) (by omega) (by omega) (by omega)).mono ?_
              rintro en v7 ⟨rfl, hv7⟩
              rw [hval.out]
              have zv7 := hv7.size
              (try simp at zv7)
              have bb_x := hide (BoxV.ext (BoxV.new v6 [.int .i64 t.st, .int .i64 t.z, .int .i64 t.b, .int .i64 t.e, .slice g1 t.xs.length k1, .slice g2 t.p.length k2, .slice g3 t.f.length k3, .slice g4 t.k.length k4, .int .i64 t.fi, .int .i64 t.fk, .int .i64 t.se, .int .i64 t.co] 32) (Ext.trans Ext.go hv7))
              replace hv7 : Ext v6 v7 := Ext.trans Ext.go hv7
              have xv7 : Hid (Ext w v7) := hide (Ext.trans Ext.go hv7)
              clear cs0 cs1 cs2 cs3 cs4 cs5 cs6 cs7 cs8 cs9 cs10 cs11 ks cp0 cp1 cp2 kp cq0 cq1 cq2 kq
              go_wp2_with fail
              go_meet
              exact Ext.go
            · skip
              have hfe : (o + (d.size : Int) != s.fi) = false := by have := hb3.out rfl; simp [this]
              go_wp2_with fail
              refine (IsSender_spec t ⟨g1, g2, g3, g4⟩ k1 k2 k3 k4 _ (hrt.out.ext Ext.go) (by omega) (by omega) (by omega)).mono ?_
              rintro en v7 ⟨rfl, hv7⟩
              rw [hval.out]
              have zv7 := hv7.size
              (try simp at zv7)
              have bb_x := hide (BoxV.ext (BoxV.new v6 [.int .i64 t.st, .int .i64 t.z, .int .i64 t.b, .int .i64 t.e, .slice g1 t.xs.length k1, .slice g2 t.p.length k2, .slice g3 t.f.length k3, .slice g4 t.k.length k4, .int .i64 t.fi, .int .i64 t.fk, .int .i64 t.se, .int .i64 t.co] 32) (Ext.trans Ext.go hv7))
              replace hv7 : Ext v6 v7 := Ext.trans Ext.go hv7
              have xv7 : Hid (Ext w v7) := hide (Ext.trans Ext.go hv7)
              clear cs0 cs1 cs2 cs3 cs4 cs5 cs6 cs7 cs8 cs9 cs10 cs11 ks cp0 cp1 cp2 kp cq0 cq1 cq2 kq
              go_wp2_with fail
              go_meet
              exact Ext.go
          · skip
            have hd0 : decide ((0 : Int) < (d.size : Int)) = true := decide_eq_true (by omega)
            have hd0n : decide (0 < d.size) = true := decide_eq_true (by omega)
            have hdl : decide (l < o + (d.size : Int)) = false := decide_eq_false (by have := hb2.out h0; omega)
            replace h0 := hide h0
            cases fin
            · skip
              go_wp2_with fail
              refine (IsSender_spec t ⟨g1, g2, g3, g4⟩ k1 k2 k3 k4 _ (hrt.out.ext Ext.go) (by omega) (by omega) (by omega)).mono ?_
              rintro en v7 ⟨rfl, hv7⟩
              rw [hval.out]
              have zv7 := hv7.size
              (try simp at zv7)
              have bb_x := hide (BoxV.ext (BoxV.new v6 [.int .i64 t.st, .int .i64 t.z, .int .i64 t.b, .int .i64 t.e, .slice g1 t.xs.length k1, .slice g2 t.p.length k2, .slice g3 t.f.length k3, .slice g4 t.k.length k4, .int .i64 t.fi, .int .i64 t.fk, .int .i64 t.se, .int .i64 t.co] 32) (Ext.trans Ext.go hv7))
              replace hv7 : Ext v6 v7 := Ext.trans Ext.go hv7
              have xv7 : Hid (Ext w v7) := hide (Ext.trans Ext.go hv7)
              clear cs0 cs1 cs2 cs3 cs4 cs5 cs6 cs7 cs8 cs9 cs10 cs11 ks cp0 cp1 cp2 kp cq0 cq1 cq2 kq
              go_wp2_with fail
              go_meet
              exact Ext.go
            · skip
              have hfe : (o + (d.size : Int) != s.fi) = false := by have := hb3.out rfl; simp [this]
              go_wp2_with fail
              refine (IsSender_spec t ⟨g1, g2, g3, g4⟩ k1 k2 k3 k4 _ (hrt.out.ext Ext.go) (by omega) (by omega) (by omega)).mono ?_
              rintro en v7 ⟨rfl, hv7⟩
              rw [hval.out]
              have zv7 := hv7.size
              (try simp at zv7)
              have bb_x := hide (BoxV.ext (BoxV.new v6 [.int .i64 t.st, .int .i64 t.z, .int .i64 t.b, .int .i64 t.e, .slice g1 t.xs.length k1, .slice g2 t.p.length k2, .slice g3 t.f.length k3, .slice g4 t.k.length k4, .int .i64 t.fi, .int .i64 t.fk, .int .i64 t.se, .int .i64 t.co] 32) (Ext.trans Ext.go hv7))
              replace hv7 : Ext v6 v7 := Ext.trans Ext.go hv7
              have xv7 : Hid (Ext w v7) := hide (Ext.trans Ext.go hv7)
              clear cs0 cs1 cs2 cs3 cs4 cs5 cs6 cs7 cs8 cs9 cs10 cs11 ks cp0 cp1 cp2 kp cq0 cq1 cq2 kq
              go_wp2_with fail
              go_meet
              exact Ext.go
  case rest =>
    obtain ⟨w9, hwe⟩ : ∃ u, u = wc := ⟨_, rfl⟩
    subst hwe
    replace hcut : Ext w4 w9 := Ext.trans Ext.go hcut
    have x9 : Hid (Ext w w9) := hide (Ext.trans Ext.go hcut)
    go_wp2_with fail
    refine (DrawSendPiece_any _ _ (hc.grown Ext.go)).mono ?_
    rintro en m1 ⟨s2, a2, e1, e2, e3, e4, o2, d2, fin2, rfl, hok2, ho2, hds2, hr2, hm1⟩
    have hq := hok2.len
    have hq1 := hok2.p
    have hq2 := hok2.f
    have hq3 := hok2.k
    have hq4 := hok2.e
    have hsm2 := hide hok2.same
    have hV2 := hide (fun (h : actV (sndS s2) s2 = true) => any_vld hok2 h)
    replace hok2 := hide hok2
    replace hr2 := hide hr2
    have zm1 := hm1.size
    (try simp at zm1)
    replace hm1 : Ext w9 m1 := Ext.trans Ext.go hm1
    have xm1 : Hid (Ext w m1) := hide (Ext.trans Ext.go hm1)
    go_wp2_with fail
    refine (SendPiece_impl s2 a2 e1 e2 e3 e4 o2 d2 fin2 _ (hr2.out.ext Ext.go) (by omega) (by omega) (by omega) (by omega) (by omega)).mono ?_
    rintro en m2 ⟨x1, x2, x3, x4, y1, y2, y3, y4, rfl, ownx, hm2⟩
    have htm := hide (hok2.out.sePc (sndI s2) o2 d2 fin2)
    rw [hsm2.out] at htm ownx ⊢
    have hvl := hide (fun (h : seOk (sndS s2) s2 o2 d2 fin2 = true) => (se_valid hV2.out (by omega) h).2)
    obtain ⟨t2, ht2⟩ : ∃ t, Hid (seX (sndS s2) s2 o2 d2 fin2 = t) := ⟨_, hide rfl⟩
    obtain ⟨q2, hq2_⟩ : ∃ t, Hid (seOk (sndS s2) s2 o2 d2 fin2 = t) := ⟨_, hide rfl⟩
    rw [ht2.out] at htm ownx hvl ⊢
    rw [hq2_.out] at hvl ⊢
    have hrx := hide ownx.read
    clear ownx
    have zm2 := hm2.size
    (try simp at zm2)
    have bb_a := hide (BoxV.ext (BoxV.new m1 [.int .i64 s2.st, .int .i64 s2.z, .int .i64 s2.b, .int .i64 s2.e, .slice a2.r s2.xs.length e1, .slice a2.p s2.p.length e2, .slice a2.f s2.f.length e3, .slice a2.k s2.k.length e4, .int .i64 s2.fi, .int .i64 s2.fk, .int .i64 s2.se, .int .i64 s2.co] 32) (Ext.trans Ext.go hm2))
    have bb_b := hide (BoxV.ext (show BoxV (m1.heap.size + 1) ((m1.alloc (.cells #[.int .i64 s2.st, .int .i64 s2.z, .int .i64 s2.b, .int .i64 s2.e, .slice a2.r s2.xs.length e1, .slice a2.p s2.p.length e2, .slice a2.f s2.f.length e3, .slice a2.k s2.k.length e4, .int .i64 s2.fi, .int .i64 s2.fk, .int .i64 s2.se, .int .i64 s2.co] 32)).alloc (.cells #[.int .i64 o2, .string d2, .bool fin2] 55)) [.int .i64 o2, .string d2, .bool fin2] from by have h := (BoxV.new (m1.alloc (.cells #[.int .i64 s2.st, .int .i64 s2.z, .int .i64 s2.b, .int .i64 s2.e, .slice a2.r s2.xs.length e1, .slice a2.p s2.p.length e2, .slice a2.f s2.f.length e3, .slice a2.k s2.k.length e4, .int .i64 s2.fi, .int .i64 s2.fk, .int .i64 s2.se, .int .i64 s2.co] 32)) [.int .i64 o2, .string d2, .bool fin2] 55); simpa only [World.size_alloc, World.size_drew] using h) (Ext.trans Ext.go hm2))
    replace hm2 : Ext m1 m2 := Ext.trans Ext.go hm2
    have xm2 : Hid (Ext w m2) := hide (Ext.trans Ext.go hm2)
    have na := bb_a.out
    have ca0 := na.c 0 _ rfl
    have ca1 := na.c 1 _ rfl
    have ca2 := na.c 2 _ rfl
    have ca3 := na.c 3 _ rfl
    have ca4 := na.c 4 _ rfl
    have ca5 := na.c 5 _ rfl
    have ca6 := na.c 6 _ rfl
    have ca7 := na.c 7 _ rfl
    have ca8 := na.c 8 _ rfl
    have ca9 := na.c 9 _ rfl
    have ca10 := na.c 10 _ rfl
    have ca11 := na.c 11 _ rfl
    have ka : m1.heap.size < m2.heap.size := na.lt
    clear na
    have nb := bb_b.out
    have cb0 := nb.c 0 _ rfl
    have cb1 := nb.c 1 _ rfl
    have cb2 := nb.c 2 _ rfl
    have kb : m1.heap.size + 1 < m2.heap.size := nb.lt
    clear nb
    go_wp2_with fail
    refine (SendPiece_spec s2 a2 e1 e2 e3 e4 o2 d2 fin2 _ (hr2.out.ext Ext.go) (by omega) (by omega) (by omega) (by omega) (by omega)).mono ?_
    rintro en m3 ⟨v1, v2, v3, v4, z1, z2, z3, z4, rfl, owny, hm3⟩
    rw [ht2.out] at owny
    rw [ht2.out, hq2_.out]
    have hry := hide owny.read
    clear owny
    obtain ⟨htm1, htm2, htm3, htm4, htm5⟩ := htm.out
    have zm3 := hm3.size
    (try simp at zm3)
    have bb_c := hide (BoxV.ext (BoxV.new m2 [.int .i64 t2.st, .int .i64 t2.z, .int .i64 t2.b, .int .i64 t2.e, .slice x1 t2.xs.length y1, .slice x2 t2.p.length y2, .slice x3 t2.f.length y3, .slice x4 t2.k.length y4, .int .i64 t2.fi, .int .i64 t2.fk, .int .i64 t2.se, .int .i64 t2.co] 32) (Ext.trans Ext.go hm3))
    replace hm3 : Ext m2 m3 := Ext.trans Ext.go hm3
    have xm3 : Hid (Ext w m3) := hide (Ext.trans Ext.go hm3)
    clear ca0 ca1 ca2 ca3 ca4 ca5 ca6 ca7 ca8 ca9 ca10 ca11 ka cb0 cb1 cb2 kb
    have nc := bb_c.out
    have cc0 := nc.c 0 _ rfl
    have cc1 := nc.c 1 _ rfl
    have cc2 := nc.c 2 _ rfl
    have cc3 := nc.c 3 _ rfl
    have cc4 := nc.c 4 _ rfl
    have cc5 := nc.c 5 _ rfl
    have cc6 := nc.c 6 _ rfl
    have cc7 := nc.c 7 _ rfl
    have cc8 := nc.c 8 _ rfl
    have cc9 := nc.c 9 _ rfl
    have cc10 := nc.c 10 _ rfl
    have cc11 := nc.c 11 _ rfl
    have kc : m2.heap.size < m3.heap.size := nc.lt
    clear nc
    go_wp2_with fail
    refine (eqs_same t2 ⟨x1, x2, x3, x4⟩ ⟨v1, v2, v3, v4⟩ y1 y2 y3 y4 z1 z2 z3 z4 _ (hrx.out.ext Ext.go) (hry.out.ext Ext.go) htm.out).mono ?_
    rintro en m4 ⟨rfl, hm4⟩
    have zm4 := hm4.size
    (try simp at zm4)
    have bb_d := hide (BoxV.ext (BoxV.new m3 [.int .i64 t2.st, .int .i64 t2.z, .int .i64 t2.b, .int .i64 t2.e, .slice v1 t2.xs.length z1, .slice v2 t2.p.length z2, .slice v3 t2.f.length z3, .slice v4 t2.k.length z4, .int .i64 t2.fi, .int .i64 t2.fk, .int .i64 t2.se, .int .i64 t2.co] 32) (Ext.trans Ext.go hm4))
    replace hm4 : Ext m3 m4 := Ext.trans Ext.go hm4
    have xm4 : Hid (Ext w m4) := hide (Ext.trans Ext.go hm4)
    clear cc0 cc1 cc2 cc3 cc4 cc5 cc6 cc7 cc8 cc9 cc10 cc11 kc
    cases q2
    · skip
      go_wp2
      go_ret
      exact ⟨rfl, Ext.go⟩
    · skip
      have nd := bb_d.out
      have cd0 := nd.c 0 _ rfl
      have cd1 := nd.c 1 _ rfl
      have cd2 := nd.c 2 _ rfl
      have cd3 := nd.c 3 _ rfl
      have cd4 := nd.c 4 _ rfl
      have cd5 := nd.c 5 _ rfl
      have cd6 := nd.c 6 _ rfl
      have cd7 := nd.c 7 _ rfl
      have cd8 := nd.c 8 _ rfl
      have cd9 := nd.c 9 _ rfl
      have cd10 := nd.c 10 _ rfl
      have cd11 := nd.c 11 _ rfl
      have kd : m3.heap.size < m4.heap.size := nd.lt
      clear nd
      go_wp2_with fail
      refine (IsSender_impl t2 ⟨v1, v2, v3, v4⟩ z1 z2 z3 z4 _ (hry.out.ext Ext.go) (by omega) (by omega)).mono ?_
      rintro en m5 ⟨rfl, hm5⟩
      rw [hvl.out (by first | rfl | trivial)]
      have zm5 := hm5.size
      (try simp at zm5)
      replace hm5 : Ext m4 m5 := Ext.trans Ext.go hm5
      have xm5 : Hid (Ext w m5) := hide (Ext.trans Ext.go hm5)
      clear cd0 cd1 cd2 cd3 cd4 cd5 cd6 cd7 cd8 cd9 cd10 cd11 kd
      go_wp2
      go_ret
      exact ⟨rfl, Ext.go⟩
theorem pieces_reads : ∀ t ∈ Try.f6.params.toList, Try.prog.readableRec t = true ∧ t < Try.prog.types.size := by
  rw [Try.params6]
  intro t ht
  simp only [List.mem_cons, List.not_mem_nil, or_false] at ht
  subst ht
  exact ⟨by kernel_rfl, of_decide_eq_true (by kernel_rfl)⟩
set_option maxRecDepth 100000 in
theorem pieces_lifted (os : Os) (started : os.Started) (H : Type) (enc : TypeId × Value → H) :
    ReturnsInHanded {} Try.checked os 6 .any (Rows.fnPiecesSpec.pre6 enc Try.prog Try.f6 Rows.fnPiecesRow.domain false) (Rows.fnPiecesSpec.post enc Try.prog Try.f6 false true false false) := by
  refine returnsInHanded_of_change (C := Try.checked) ownKnobNone started (by kernel_rfl) Try.func6
    (ChangeSpec.witness6 (enc := enc) (C := Try.checked) false ⟨#[], #[.slice none 0 0], []⟩ 8 (by kernel_rfl) (by kernel_rfl) (by kernel_rfl) (by kernel_rfl)) ?_
  intro W base args ds gs before hval0 hW hcnd _
  have hval : ∀ (j : Nat) t v, Try.f6.params[j]? = some t → args[j]? = some v → Value.okWide Try.prog W .any base t v := hval0
  have hW' := hW
  obtain ⟨p, q, hA0, hV, rfl, hfz, hnd⟩ := hW
  have hA : DataW.TrodAll enc Try.prog W 0 (fun _ => true) true Try.f6.params.toList args.toList ds p := hA0
  rw [Try.params6] at hA hval
  obtain ⟨v0, vs0, d0, ds0, p0, q0, hargs, rfl, rfl, h0, r0⟩ := trodAll_cons hA
  obtain ⟨rfl, rfl, rfl⟩ := trodAll_nil r0
  obtain rfl : args = #[v0] := by cases args; simp_all
  obtain ⟨ao, len, cap, rfl, hcode⟩ := open_code Try.underlying39 Try.underlying5 (by kernel_rfl) (hval 0 39 v0 rfl rfl) h0
  refine (pieces_walk ao len cap W hcode).mono fun e W' ⟨he, hg⟩ => ?_
  subst he
  exact ⟨_, rfl, law_post laidOut pieces_reads rfl rfl Try.underlying4 hW' (fun gs h => by subst h; rfl) hg⟩
theorem pieces_over : Rows.fnPiecesRow.holds Try.pinned (OpenSpec.ofChange Rows.fnPiecesSpec) :=
  OpenClaim.holds_of_wide 6 Try.f6 rfl rfl rfl rfl rfl rfl rfl ⟨rfl, rfl, rfl, rfl, rfl⟩ rfl rfl rfl rfl rfl (by kernel_rfl) Try.func6 (by kernel_rfl)
    (of_decide_eq_true (by kernel_rfl)) (by unfold Func.isWrapper; first | (rw [if_pos (by decide +kernel)]; kernel_rfl) | (rw [if_neg (by decide +kernel)]; exact ⟨rfl, rfl⟩))
    (fun os started H enc _ => pieces_lifted os started H enc)
/-- The statement. -/
theorem pieces_holds : Rows.FnPiecesSaid := pieces_over
end
end Go.Proofs.Ytjhgcbchdnoleaa
