/-
  Part of the proof: SnA.
-/
import Derived.Test.YtjhgcbchdnoleaaPSnV
import Derived.Test.YtjhgcbchdnoleaaPIsSndJ
import Derived.Test.YtjhgcbchdnoleaaPIsSndT
import Derived.Test.YtjhgcbchdnoleaaPRgD
namespace Go.Proofs.Ytjhgcbchdnoleaa
section
open Go.ChangeShapes Go.WideShapes Go.ChangeAt Go.RowKit
set_option linter.unusedSimpArgs false
set_option linter.unusedVariables false
theorem sndI_st {s : Sn} (h : sndI s = true) : 0 ≤ s.st ∧ s.st ≤ 5 := by
  unfold sndI at h
  rw [Bool.and_eq_true] at h
  by_cases hr : isRst s = true
  · simp only [isRst, Bool.or_eq_true, decide_eq_true_eq] at hr
    omega
  · rw [if_neg hr] at h
    simp only [Bool.and_eq_true, decide_eq_true_eq] at h
    have h1 := h.2.2.2.2.2.2.2
    have h2 := stI_bd s.st s.b s.e s.fk s.se
    omega
theorem sndS_st {s : Sn} (h : sndS s = true) : 0 ≤ s.st ∧ s.st ≤ 5 := by
  unfold sndS at h
  rw [Bool.and_eq_true] at h
  by_cases hr : isRst s = true
  · simp only [isRst, Bool.or_eq_true, decide_eq_true_eq] at hr
    omega
  · rw [if_neg hr] at h
    have hd := (sndHd_iff s).1 h.1
    simp only [Bool.and_eq_true, decide_eq_true_eq] at h
    have h1 := h.2.2.2.2.2.2.2.2
    rw [stS_I hd.fk1] at h1
    have h2 := stI_bd s.st s.b s.e s.fk s.se
    omega
theorem sndS_hd {s : Sn} (h : sndS s = true) : Hd s := by
  unfold sndS at h
  rw [Bool.and_eq_true] at h
  exact (sndHd_iff s).1 h.1
/-- Whether something can still be written: v says whether the sender is valid. -/
def canW (v : Bool) (s : Sn) : Bool := v && (inB 0 s.st 1 && decide (s.fi = -1))
def actV (v : Bool) (s : Sn) : Bool := v && inB 0 s.st 2
theorem canW_iff {v : Bool} {s : Sn} : canW v s = true ↔ v = true ∧ (0 ≤ s.st ∧ s.st ≤ 1) ∧ s.fi = -1 := by
  simp [canW, inB]
theorem actV_iff {v : Bool} {s : Sn} : actV v s = true ↔ v = true ∧ 0 ≤ s.st ∧ s.st ≤ 2 := by
  simp [actV, inB]
def wrX (v : Bool) (s : Sn) (d : ByteArray) : Sn := if canW v s = true then wrV s d else s
def wrM (v : Bool) (s : Sn) (d : ByteArray) : Int := if canW v s = true then (wrN s d : Nat) else 0
def clX (v : Bool) (s : Sn) : Sn := if canW v s = true then clV s else s
def rsOk (v : Bool) (s : Sn) (co : Int) : Bool := actV v s && inB 0 co 4611686018427387903
def rsX (v : Bool) (s : Sn) (co : Int) : Sn := if rsOk v s co = true then rsV s co else s
theorem OwnSnV.setR {lo hi cp l u hi' : Nat} {w : World} {a : Ads} {c : Con} {ar : Option Addr} {xs : List Int} (h : OwnSnV lo hi w a cp c) (hr : OwnS l u w ar xs) (b0 : lo ≤ l) (b1 : hi ≤ l) (b2 : u ≤ hi') (b3 : hi ≤ hi') : OwnSnV lo hi' w ⟨ar, a.p, a.f, a.k⟩ cp ⟨xs, c.p, c.f, c.k⟩ := by
  obtain ⟨l1, u1, l2, u2, l3, u3, l4, u4, hb, ⟨q1, q2, q3, q4, q5, q6⟩, h1, h2, h3, h4⟩ := h
  exact ⟨l, u, l2, u2, l3, u3, l4, u4, by omega, ⟨Or.inr (by omega), Or.inr (by omega), Or.inr (by omega), q4, q5, q6⟩, hr, h2, h3, h4⟩
theorem OwnSnV.setP {lo hi cp l u hi' cp' : Nat} {w : World} {a : Ads} {c : Con} {ap : Option Addr} {ps : List Rg} (h : OwnSnV lo hi w a cp c) (hp : OwnW l u w ap cp' ps) (b0 : lo ≤ l) (b1 : hi ≤ l) (b2 : u ≤ hi') (b3 : hi ≤ hi') : OwnSnV lo hi' w ⟨a.r, ap, a.f, a.k⟩ cp' ⟨c.r, ps, c.f, c.k⟩ := by
  obtain ⟨l1, u1, l2, u2, l3, u3, l4, u4, hb, ⟨q1, q2, q3, q4, q5, q6⟩, h1, h2, h3, h4⟩ := h
  exact ⟨l1, u1, l, u, l3, u3, l4, u4, by omega, ⟨Or.inl (by omega), q2, q3, Or.inr (by omega), Or.inr (by omega), q6⟩, h1, hp, h3, h4⟩
theorem OwnSnV.setF {lo hi cp l u hi' : Nat} {w : World} {a : Ads} {c : Con} {af : Option Addr} {fs : List Rg} (h : OwnSnV lo hi w a cp c) (hf : OwnR l u w af fs) (b0 : lo ≤ l) (b1 : hi ≤ l) (b2 : u ≤ hi') (b3 : hi ≤ hi') : OwnSnV lo hi' w ⟨a.r, a.p, af, a.k⟩ cp ⟨c.r, c.p, fs, c.k⟩ := by
  obtain ⟨l1, u1, l2, u2, l3, u3, l4, u4, hb, ⟨q1, q2, q3, q4, q5, q6⟩, h1, h2, h3, h4⟩ := h
  exact ⟨l1, u1, l2, u2, l, u, l4, u4, by omega, ⟨q1, Or.inl (by omega), q3, Or.inl (by omega), q5, Or.inr (by omega)⟩, h1, h2, hf, h4⟩
theorem OwnSnV.setK {lo hi cp l u hi' : Nat} {w : World} {a : Ads} {c : Con} {ak : Option Addr} {ks : List Rg} (h : OwnSnV lo hi w a cp c) (hk : OwnR l u w ak ks) (b0 : lo ≤ l) (b1 : hi ≤ l) (b2 : u ≤ hi') (b3 : hi ≤ hi') : OwnSnV lo hi' w ⟨a.r, a.p, a.f, ak⟩ cp ⟨c.r, c.p, c.f, ks⟩ := by
  obtain ⟨l1, u1, l2, u2, l3, u3, l4, u4, hb, ⟨q1, q2, q3, q4, q5, q6⟩, h1, h2, h3, h4⟩ := h
  exact ⟨l1, u1, l2, u2, l3, u3, l, u, by omega, ⟨q1, q2, Or.inl (by omega), q4, Or.inl (by omega), Or.inl (by omega)⟩, h1, h2, h3, hk⟩
set_option maxHeartbeats 4000000 in
set_option maxRecDepth 100000 in
theorem isActive_impl (s : Sn) (a : Ads) (c1 c2 c3 c4 : Nat) (w : World) (hx : ReadSnd w a ⟨s.xs, s.p, s.f, s.k⟩) (hl : s.xs.length ≤ 1048576) (hsum : s.p.length + s.f.length + s.k.length ≤ 1048576) :
    Calls Try.prog 88 #[.agg #[.int .i64 s.st, .int .i64 s.z, .int .i64 s.b, .int .i64 s.e, .slice a.r s.xs.length c1, .slice a.p s.p.length c2, .slice a.f s.f.length c3, .slice a.k s.k.length c4, .int .i64 s.fi, .int .i64 s.fk, .int .i64 s.se, .int .i64 s.co]] w fun en w' => en = .returned (.bool (actV (sndI s) s)) ∧ Ext w w' := by
  unfold actV
  rcases Bool.eq_false_or_eq_true (sndI s) with hv | hv
  · skip
    rw [hv]
    simp only [Bool.true_and, Bool.false_and]
    obtain ⟨st, z, b, e, xs, p, f, k, fi, fk, se, co⟩ := s
    obtain ⟨ar, ap, af, ak⟩ := a
    dsimp only at *
    have hx' := hide hx
    clear hx
    go_enter Try.func88, Try.ntmps88
    go_wp2_with fail
    refine (IsSender_impl ⟨st, z, b, e, xs, p, f, k, fi, fk, se, co⟩ ⟨ar, ap, af, ak⟩ c1 c2 c3 c4 _ (hx'.out.ext Ext.go) hl hsum).mono ?_
    rintro en w1 ⟨rfl, hw1⟩
    have zw1 := hw1.size
    (try simp at zw1)
    have kw1_0 := hw1.more (k := w.heap.size) xpf
    obtain ⟨cw1_0, fw1_0⟩ := hw1.row (k := w.heap.size) xpf
    have xw1 : Hid (Ext w w1) := hide (Ext.trans Ext.go hw1)
    rw [hv]
    go_wp2_with fail
    refine (within_any st 0 2 _).mono ?_
    rintro en _ ⟨rfl, rfl⟩
    go_wp2
    go_ret
    exact ⟨rfl, Ext.go⟩
  · skip
    rw [hv]
    simp only [Bool.true_and, Bool.false_and]
    obtain ⟨st, z, b, e, xs, p, f, k, fi, fk, se, co⟩ := s
    obtain ⟨ar, ap, af, ak⟩ := a
    dsimp only at *
    have hx' := hide hx
    clear hx
    go_enter Try.func88, Try.ntmps88
    go_wp2_with fail
    refine (IsSender_impl ⟨st, z, b, e, xs, p, f, k, fi, fk, se, co⟩ ⟨ar, ap, af, ak⟩ c1 c2 c3 c4 _ (hx'.out.ext Ext.go) hl hsum).mono ?_
    rintro en w1 ⟨rfl, hw1⟩
    have zw1 := hw1.size
    (try simp at zw1)
    have kw1_0 := hw1.more (k := w.heap.size) xpf
    obtain ⟨cw1_0, fw1_0⟩ := hw1.row (k := w.heap.size) xpf
    have xw1 : Hid (Ext w w1) := hide (Ext.trans Ext.go hw1)
    rw [hv]
    go_wp2
    go_ret
    exact ⟨rfl, Ext.go⟩
set_option maxHeartbeats 4000000 in
set_option maxRecDepth 100000 in
theorem WriteSender_spec (s : Sn) (a : Ads) (c1 c2 c3 c4 : Nat) (d : ByteArray) (w : World) (hx : ReadSnd w a ⟨s.xs, s.p, s.f, s.k⟩) (hl : s.xs.length ≤ 1048576) (hsum : s.p.length + s.f.length + s.k.length ≤ 1048576) (he : s.e ≤ 9223372036854775807) (hds : (d.size : Int) ≤ 1048576) :
    Calls Try.prog 17 #[.agg #[.int .i64 s.st, .int .i64 s.z, .int .i64 s.b, .int .i64 s.e, .slice a.r s.xs.length c1, .slice a.p s.p.length c2, .slice a.f s.f.length c3, .slice a.k s.k.length c4, .int .i64 s.fi, .int .i64 s.fk, .int .i64 s.se, .int .i64 s.co], .string d] w (SnRes (wrX (sndS s) s d) (.int .i64 (wrM (sndS s) s d)) w) := by
  rcases Bool.eq_false_or_eq_true (sndS s) with hv | hv
  rotate_left
  · skip
    have hc : canW (sndS s) s = false := by
      rw [Bool.eq_false_iff]
      intro h
      have := canW_iff.1 h
      simp_all <;> omega
    have ha : wrX (sndS s) s d = s := by unfold wrX; rw [hc]; rfl
    have hb : wrM (sndS s) s d = 0 := by unfold wrM; rw [hc]; rfl
    rw [ha, hb]
    clear ha hb
    obtain ⟨st, z, b, e, xs, p, f, k, fi, fk, se, co⟩ := s
    obtain ⟨ar, ap, af, ak⟩ := a
    dsimp only at *
    have hx' := hide hx
    clear hx
    go_enter Try.func17, Try.ntmps17
    go_wp2_with fail
    refine (l9Copy_any ⟨st, z, b, e, xs, p, f, k, fi, fk, se, co⟩ ⟨ar, ap, af, ak⟩ c1 c2 c3 c4 _ (hx'.out.ext Ext.go) hl hsum).mono ?_
    rintro en w1 ⟨d1, d2, d3, d4, cd1, cd2, cd3, cd4, rfl, ownd, hw1⟩
    have zw1 := hw1.size
    (try simp at zw1)
    have kw1_0 := hw1.more (k := w.heap.size) xpf
    obtain ⟨cw1_0, fw1_0⟩ := hw1.row (k := w.heap.size) xpf
    have kw1_1 := hw1.more (k := w.heap.size + 1) xpf
    obtain ⟨cw1_1, fw1_1⟩ := hw1.row (k := w.heap.size + 1) xpf
    have xw1 : Hid (Ext w w1) := hide (Ext.trans Ext.go hw1)
    (try simp only [World.size_alloc, World.size_drew, World.size_setCell] at ownd)
    replace ownd := hide ownd
    go_wp2_with fail
    refine (IsSender_spec ⟨st, z, b, e, xs, p, f, k, fi, fk, se, co⟩ ⟨ar, ap, af, ak⟩ c1 c2 c3 c4 _ (hx'.out.ext Ext.go) hl hsum he).mono ?_
    rintro en w2 ⟨rfl, hw2⟩
    have zw2 := hw2.size
    (try simp at zw2)
    have kw2_0 := hw2.more (k := w.heap.size) xpf
    obtain ⟨cw2_0, fw2_0⟩ := hw2.row (k := w.heap.size) xpf
    have kw2_1 := hw2.more (k := w.heap.size + 1) xpf
    obtain ⟨cw2_1, fw2_1⟩ := hw2.row (k := w.heap.size + 1) xpf
    have kw2_2 := hw2.more (k := w1.heap.size) xpf
    obtain ⟨cw2_2, fw2_2⟩ := hw2.row (k := w1.heap.size) xpf
    have xw2 : Hid (Ext w w2) := hide (Ext.trans Ext.go hw2)
    rw [hv]
    go_wp2
    refine bodyPost_ret (v := .tuple #[.agg #[.int .i64 st, .int .i64 z, .int .i64 b, .int .i64 e, .slice d1 xs.length cd1, .slice d2 p.length cd2, .slice d3 f.length cd3, .slice d4 k.length cd4, .int .i64 fi, .int .i64 fk, .int .i64 se, .int .i64 co], .int .i64 0]) (by simp [results, Try.results17, go_sem, *]) rfl ⟨d1, d2, d3, d4, cd1, cd2, cd3, cd4, rfl, ?_, ?_⟩
    · exact (OwnSnV.mono (OwnSnV.chg (S := fun b => b = w.heap.size ∨ b = w.heap.size + 1 ∨ b = w1.heap.size) ownd.out Chg.go xap) xpf xpf)
    · exact Ext.go
  have hst := sndS_st hv
  by_cases h1 : s.st ≤ 1
  rotate_left
  · skip
    have h1e : decide (1 < s.st) = true := decide_eq_true (by omega)
    have hc : canW (sndS s) s = false := by
      rw [Bool.eq_false_iff]
      intro h
      have := canW_iff.1 h
      simp_all <;> omega
    have ha : wrX (sndS s) s d = s := by unfold wrX; rw [hc]; rfl
    have hb : wrM (sndS s) s d = 0 := by unfold wrM; rw [hc]; rfl
    rw [ha, hb]
    clear ha hb
    clear h1
    obtain ⟨st, z, b, e, xs, p, f, k, fi, fk, se, co⟩ := s
    obtain ⟨ar, ap, af, ak⟩ := a
    dsimp only at *
    have hx' := hide hx
    clear hx
    go_enter Try.func17, Try.ntmps17
    go_wp2_with fail
    refine (l9Copy_any ⟨st, z, b, e, xs, p, f, k, fi, fk, se, co⟩ ⟨ar, ap, af, ak⟩ c1 c2 c3 c4 _ (hx'.out.ext Ext.go) hl hsum).mono ?_
    rintro en w1 ⟨d1, d2, d3, d4, cd1, cd2, cd3, cd4, rfl, ownd, hw1⟩
    have zw1 := hw1.size
    (try simp at zw1)
    have kw1_0 := hw1.more (k := w.heap.size) xpf
    obtain ⟨cw1_0, fw1_0⟩ := hw1.row (k := w.heap.size) xpf
    have kw1_1 := hw1.more (k := w.heap.size + 1) xpf
    obtain ⟨cw1_1, fw1_1⟩ := hw1.row (k := w.heap.size + 1) xpf
    have xw1 : Hid (Ext w w1) := hide (Ext.trans Ext.go hw1)
    (try simp only [World.size_alloc, World.size_drew, World.size_setCell] at ownd)
    replace ownd := hide ownd
    go_wp2_with fail
    refine (IsSender_spec ⟨st, z, b, e, xs, p, f, k, fi, fk, se, co⟩ ⟨ar, ap, af, ak⟩ c1 c2 c3 c4 _ (hx'.out.ext Ext.go) hl hsum he).mono ?_
    rintro en w2 ⟨rfl, hw2⟩
    have zw2 := hw2.size
    (try simp at zw2)
    have kw2_0 := hw2.more (k := w.heap.size) xpf
    obtain ⟨cw2_0, fw2_0⟩ := hw2.row (k := w.heap.size) xpf
    have kw2_1 := hw2.more (k := w.heap.size + 1) xpf
    obtain ⟨cw2_1, fw2_1⟩ := hw2.row (k := w.heap.size + 1) xpf
    have kw2_2 := hw2.more (k := w1.heap.size) xpf
    obtain ⟨cw2_2, fw2_2⟩ := hw2.row (k := w1.heap.size) xpf
    have xw2 : Hid (Ext w w2) := hide (Ext.trans Ext.go hw2)
    rw [hv]
    go_wp2
    refine bodyPost_ret (v := .tuple #[.agg #[.int .i64 st, .int .i64 z, .int .i64 b, .int .i64 e, .slice d1 xs.length cd1, .slice d2 p.length cd2, .slice d3 f.length cd3, .slice d4 k.length cd4, .int .i64 fi, .int .i64 fk, .int .i64 se, .int .i64 co], .int .i64 0]) (by simp [results, Try.results17, go_sem, *]) rfl ⟨d1, d2, d3, d4, cd1, cd2, cd3, cd4, rfl, ?_, ?_⟩
    · exact (OwnSnV.mono (OwnSnV.chg (S := fun b => b = w.heap.size ∨ b = w.heap.size + 1 ∨ b = w1.heap.size) ownd.out Chg.go xap) xpf xpf)
    · exact Ext.go
  have h1e : decide (1 < s.st) = false := decide_eq_false (by omega)
  by_cases h3 : s.fi = -1
  rotate_left
  · skip
    have h3e : (s.fi == -1) = false := by simp [h3]
    have h3n : (s.fi != -1) = true := by simp [h3]
    have hc : canW (sndS s) s = false := by
      rw [Bool.eq_false_iff]
      intro h
      have := canW_iff.1 h
      simp_all <;> omega
    have ha : wrX (sndS s) s d = s := by unfold wrX; rw [hc]; rfl
    have hb : wrM (sndS s) s d = 0 := by unfold wrM; rw [hc]; rfl
    rw [ha, hb]
    clear ha hb
    clear h3
    obtain ⟨st, z, b, e, xs, p, f, k, fi, fk, se, co⟩ := s
    obtain ⟨ar, ap, af, ak⟩ := a
    dsimp only at *
    have hx' := hide hx
    clear hx
    go_enter Try.func17, Try.ntmps17
    go_wp2_with fail
    refine (l9Copy_any ⟨st, z, b, e, xs, p, f, k, fi, fk, se, co⟩ ⟨ar, ap, af, ak⟩ c1 c2 c3 c4 _ (hx'.out.ext Ext.go) hl hsum).mono ?_
    rintro en w1 ⟨d1, d2, d3, d4, cd1, cd2, cd3, cd4, rfl, ownd, hw1⟩
    have zw1 := hw1.size
    (try simp at zw1)
    have kw1_0 := hw1.more (k := w.heap.size) xpf
    obtain ⟨cw1_0, fw1_0⟩ := hw1.row (k := w.heap.size) xpf
    have kw1_1 := hw1.more (k := w.heap.size + 1) xpf
    obtain ⟨cw1_1, fw1_1⟩ := hw1.row (k := w.heap.size + 1) xpf
    have xw1 : Hid (Ext w w1) := hide (Ext.trans Ext.go hw1)
    (try simp only [World.size_alloc, World.size_drew, World.size_setCell] at ownd)
    replace ownd := hide ownd
    go_wp2_with fail
    refine (IsSender_spec ⟨st, z, b, e, xs, p, f, k, fi, fk, se, co⟩ ⟨ar, ap, af, ak⟩ c1 c2 c3 c4 _ (hx'.out.ext Ext.go) hl hsum he).mono ?_
    rintro en w2 ⟨rfl, hw2⟩
    have zw2 := hw2.size
    (try simp at zw2)
    have kw2_0 := hw2.more (k := w.heap.size) xpf
    obtain ⟨cw2_0, fw2_0⟩ := hw2.row (k := w.heap.size) xpf
    have kw2_1 := hw2.more (k := w.heap.size + 1) xpf
    obtain ⟨cw2_1, fw2_1⟩ := hw2.row (k := w.heap.size + 1) xpf
    have kw2_2 := hw2.more (k := w1.heap.size) xpf
    obtain ⟨cw2_2, fw2_2⟩ := hw2.row (k := w1.heap.size) xpf
    have xw2 : Hid (Ext w w2) := hide (Ext.trans Ext.go hw2)
    rw [hv]
    go_wp2
    refine bodyPost_ret (v := .tuple #[.agg #[.int .i64 st, .int .i64 z, .int .i64 b, .int .i64 e, .slice d1 xs.length cd1, .slice d2 p.length cd2, .slice d3 f.length cd3, .slice d4 k.length cd4, .int .i64 fi, .int .i64 fk, .int .i64 se, .int .i64 co], .int .i64 0]) (by simp [results, Try.results17, go_sem, *]) rfl ⟨d1, d2, d3, d4, cd1, cd2, cd3, cd4, rfl, ?_, ?_⟩
    · exact (OwnSnV.mono (OwnSnV.chg (S := fun b => b = w.heap.size ∨ b = w.heap.size + 1 ∨ b = w1.heap.size) ownd.out Chg.go xap) xpf xpf)
    · exact Ext.go
  have h3e : (s.fi == -1) = true := by simp [h3]
  have h3n : (s.fi != -1) = false := by simp [h3]
  have hc : canW (sndS s) s = true := canW_iff.2 ⟨hv, ⟨by omega, by omega⟩, h3⟩
  obtain ⟨m, hm⟩ : ∃ m, Hid (wrN s d = m) := ⟨_, hide rfl⟩
  have hrb := isRing_bd (sndS_hd hv).ring
  have hwb := wrN_bd s d (sndS_hd hv).ring
  rw [hm.out] at hwb
  have hb : wrM (sndS s) s d = (m : Int) := by unfold wrM; rw [if_pos hc, hm.out]
  rw [hb]
  clear hb
  have hmm : (m : Int) = min (d.size : Int) (roomOf s.z s.b s.e s.xs) := by
    have := roomOf_bd s.z s.b s.e s.xs
    rw [← hm.out]
    unfold wrN
    omega
  replace hmm := hide hmm
  have hwe : IntKind.i64.wrap (s.e + (m : Int)) = s.e + m := IntWalk.i64_in _ (by omega)
  clear h3
  by_cases hm0 : m = 0
  · skip
    have hA : addR s.p (s.e, s.e + (m : Int)) = s.p := if_neg (by simp [rgFine]; omega)
    have ha : wrX (sndS s) s d = ⟨s.st, s.z, s.b, s.e + m, setN s.xs s.z s.e (byteAt d) m, s.p, s.f, s.k, s.fi, s.fk, s.se, s.co⟩ := by unfold wrX; rw [if_pos hc]; unfold wrV; rw [hm.out, hA]
    rw [ha]
    clear ha hA
    clear hc
    have hm1 : decide ((0 : Int) < (m : Int)) = false := decide_eq_false (by omega)
    obtain ⟨st, z, b, e, xs, p, f, k, fi, fk, se, co⟩ := s
    obtain ⟨ar, ap, af, ak⟩ := a
    dsimp only at *
    have hx' := hide hx
    clear hx
    go_enter Try.func17, Try.ntmps17
    go_wp2_with fail
    refine (l9Copy_any ⟨st, z, b, e, xs, p, f, k, fi, fk, se, co⟩ ⟨ar, ap, af, ak⟩ c1 c2 c3 c4 _ (hx'.out.ext Ext.go) hl hsum).mono ?_
    rintro en w1 ⟨d1, d2, d3, d4, cd1, cd2, cd3, cd4, rfl, ownd, hw1⟩
    have zw1 := hw1.size
    (try simp at zw1)
    have kw1_0 := hw1.more (k := w.heap.size) xpf
    obtain ⟨cw1_0, fw1_0⟩ := hw1.row (k := w.heap.size) xpf
    have kw1_1 := hw1.more (k := w.heap.size + 1) xpf
    obtain ⟨cw1_1, fw1_1⟩ := hw1.row (k := w.heap.size + 1) xpf
    have xw1 : Hid (Ext w w1) := hide (Ext.trans Ext.go hw1)
    (try simp only [World.size_alloc, World.size_drew, World.size_setCell] at ownd)
    replace ownd := hide ownd
    go_wp2_with fail
    refine (IsSender_spec ⟨st, z, b, e, xs, p, f, k, fi, fk, se, co⟩ ⟨ar, ap, af, ak⟩ c1 c2 c3 c4 _ (hx'.out.ext Ext.go) hl hsum he).mono ?_
    rintro en w2 ⟨rfl, hw2⟩
    have zw2 := hw2.size
    (try simp at zw2)
    have kw2_0 := hw2.more (k := w.heap.size) xpf
    obtain ⟨cw2_0, fw2_0⟩ := hw2.row (k := w.heap.size) xpf
    have kw2_1 := hw2.more (k := w.heap.size + 1) xpf
    obtain ⟨cw2_1, fw2_1⟩ := hw2.row (k := w.heap.size + 1) xpf
    have kw2_2 := hw2.more (k := w1.heap.size) xpf
    obtain ⟨cw2_2, fw2_2⟩ := hw2.row (k := w1.heap.size) xpf
    have xw2 : Hid (Ext w w2) := hide (Ext.trans Ext.go hw2)
    rw [hv]
    go_wp2_with fail
    refine (WriteRing_spec z b e d ar xs.length c1 xs _ (hx'.out.r.ext Ext.go) rfl (by omega) (by omega) (by omega) m hmm.out).mono ?_
    rintro en w3 ⟨g1, cg1, rfl, ownr, hw3⟩
    have zw3 := hw3.size
    (try simp at zw3)
    have kw3_0 := hw3.more (k := w.heap.size) xpf
    obtain ⟨cw3_0, fw3_0⟩ := hw3.row (k := w.heap.size) xpf
    have kw3_1 := hw3.more (k := w.heap.size + 1) xpf
    obtain ⟨cw3_1, fw3_1⟩ := hw3.row (k := w.heap.size + 1) xpf
    have kw3_2 := hw3.more (k := w1.heap.size) xpf
    obtain ⟨cw3_2, fw3_2⟩ := hw3.row (k := w1.heap.size) xpf
    have xw3 : Hid (Ext w w3) := hide (Ext.trans Ext.go hw3)
    (try simp only [World.size_alloc, World.size_drew, World.size_setCell] at ownr)
    replace ownr := hide ownr
    go_wp2
    refine bodyPost_ret (v := .tuple #[.agg #[.int .i64 st, .int .i64 z, .int .i64 b, .int .i64 (e + m), .slice g1 ((setN xs z e (byteAt d) m).length) cg1, .slice d2 p.length cd2, .slice d3 f.length cd3, .slice d4 k.length cd4, .int .i64 fi, .int .i64 fk, .int .i64 se, .int .i64 co], .int .i64 (m : Int)]) (by simp [results, Try.results17, go_sem, *]) rfl ⟨g1, d2, d3, d4, cg1, cd2, cd3, cd4, rfl, ?_, ?_⟩
    · exact (OwnSnV.mono (OwnSnV.setR (hi' := w3.heap.size) (OwnSnV.chg (S := fun b => b = w.heap.size ∨ b = w.heap.size + 1 ∨ b = w1.heap.size ∨ b = w3.heap.size) ownd.out Chg.go xap) (OwnS.chg (S := fun b => b = w.heap.size ∨ b = w.heap.size + 1 ∨ b = w1.heap.size ∨ b = w3.heap.size) ownr.out Chg.go xap) xpf xpf xpf xpf) xpf xpf)
    · exact Ext.go
  · skip
    have ha : wrX (sndS s) s d = ⟨s.st, s.z, s.b, s.e + m, setN s.xs s.z s.e (byteAt d) m, addR s.p (s.e, s.e + m), s.f, s.k, s.fi, s.fk, s.se, s.co⟩ := by unfold wrX; rw [if_pos hc]; unfold wrV; rw [hm.out]
    rw [ha]
    clear ha
    clear hc
    have hm1 : decide ((0 : Int) < (m : Int)) = true := decide_eq_true (by omega)
    obtain ⟨st, z, b, e, xs, p, f, k, fi, fk, se, co⟩ := s
    obtain ⟨ar, ap, af, ak⟩ := a
    dsimp only at *
    have hx' := hide hx
    clear hx
    go_enter Try.func17, Try.ntmps17
    go_wp2_with fail
    refine (l9Copy_any ⟨st, z, b, e, xs, p, f, k, fi, fk, se, co⟩ ⟨ar, ap, af, ak⟩ c1 c2 c3 c4 _ (hx'.out.ext Ext.go) hl hsum).mono ?_
    rintro en w1 ⟨d1, d2, d3, d4, cd1, cd2, cd3, cd4, rfl, ownd, hw1⟩
    have zw1 := hw1.size
    (try simp at zw1)
    have kw1_0 := hw1.more (k := w.heap.size) xpf
    obtain ⟨cw1_0, fw1_0⟩ := hw1.row (k := w.heap.size) xpf
    have kw1_1 := hw1.more (k := w.heap.size + 1) xpf
    obtain ⟨cw1_1, fw1_1⟩ := hw1.row (k := w.heap.size + 1) xpf
    have xw1 : Hid (Ext w w1) := hide (Ext.trans Ext.go hw1)
    (try simp only [World.size_alloc, World.size_drew, World.size_setCell] at ownd)
    replace ownd := hide ownd
    go_wp2_with fail
    refine (IsSender_spec ⟨st, z, b, e, xs, p, f, k, fi, fk, se, co⟩ ⟨ar, ap, af, ak⟩ c1 c2 c3 c4 _ (hx'.out.ext Ext.go) hl hsum he).mono ?_
    rintro en w2 ⟨rfl, hw2⟩
    have zw2 := hw2.size
    (try simp at zw2)
    have kw2_0 := hw2.more (k := w.heap.size) xpf
    obtain ⟨cw2_0, fw2_0⟩ := hw2.row (k := w.heap.size) xpf
    have kw2_1 := hw2.more (k := w.heap.size + 1) xpf
    obtain ⟨cw2_1, fw2_1⟩ := hw2.row (k := w.heap.size + 1) xpf
    have kw2_2 := hw2.more (k := w1.heap.size) xpf
    obtain ⟨cw2_2, fw2_2⟩ := hw2.row (k := w1.heap.size) xpf
    have xw2 : Hid (Ext w w2) := hide (Ext.trans Ext.go hw2)
    rw [hv]
    go_wp2_with fail
    refine (WriteRing_spec z b e d ar xs.length c1 xs _ (hx'.out.r.ext Ext.go) rfl (by omega) (by omega) (by omega) m hmm.out).mono ?_
    rintro en w3 ⟨g1, cg1, rfl, ownr, hw3⟩
    have zw3 := hw3.size
    (try simp at zw3)
    have kw3_0 := hw3.more (k := w.heap.size) xpf
    obtain ⟨cw3_0, fw3_0⟩ := hw3.row (k := w.heap.size) xpf
    have kw3_1 := hw3.more (k := w.heap.size + 1) xpf
    obtain ⟨cw3_1, fw3_1⟩ := hw3.row (k := w.heap.size + 1) xpf
    have kw3_2 := hw3.more (k := w1.heap.size) xpf
    obtain ⟨cw3_2, fw3_2⟩ := hw3.row (k := w1.heap.size) xpf
    have xw3 : Hid (Ext w w3) := hide (Ext.trans Ext.go hw3)
    (try simp only [World.size_alloc, World.size_drew, World.size_setCell] at ownr)
    replace ownr := hide ownr
    go_wp2_with fail
    refine (AddRangeW_spec e (e + m) ap p.length c2 p _ (hx'.out.p.ext Ext.go) rfl (by omega)).mono ?_
    rintro en w4 ⟨g2, cg2, rfl, ownp, hw4⟩
    have zw4 := hw4.size
    (try simp at zw4)
    have kw4_0 := hw4.more (k := w.heap.size) xpf
    obtain ⟨cw4_0, fw4_0⟩ := hw4.row (k := w.heap.size) xpf
    have kw4_1 := hw4.more (k := w.heap.size + 1) xpf
    obtain ⟨cw4_1, fw4_1⟩ := hw4.row (k := w.heap.size + 1) xpf
    have kw4_2 := hw4.more (k := w1.heap.size) xpf
    obtain ⟨cw4_2, fw4_2⟩ := hw4.row (k := w1.heap.size) xpf
    have kw4_3 := hw4.more (k := w3.heap.size) xpf
    obtain ⟨cw4_3, fw4_3⟩ := hw4.row (k := w3.heap.size) xpf
    have xw4 : Hid (Ext w w4) := hide (Ext.trans Ext.go hw4)
    replace ownp := OwnW.of ownp
    (try simp only [World.size_alloc, World.size_drew, World.size_setCell] at ownp)
    replace ownp := hide ownp
    go_wp2
    refine bodyPost_ret (v := .tuple #[.agg #[.int .i64 st, .int .i64 z, .int .i64 b, .int .i64 (e + m), .slice g1 ((setN xs z e (byteAt d) m).length) cg1, .slice g2 ((addR p (e, e + m)).length) cg2, .slice d3 f.length cd3, .slice d4 k.length cd4, .int .i64 fi, .int .i64 fk, .int .i64 se, .int .i64 co], .int .i64 (m : Int)]) (by simp [results, Try.results17, go_sem, *]) rfl ⟨g1, g2, d3, d4, cg1, cg2, cd3, cd4, rfl, ?_, ?_⟩
    · exact (OwnSnV.mono (OwnSnV.setP (hi' := w4.heap.size) (OwnSnV.setR (hi' := w3.heap.size) (OwnSnV.chg (S := fun b => b = w.heap.size ∨ b = w.heap.size + 1 ∨ b = w1.heap.size ∨ b = w3.heap.size) ownd.out Chg.go xap) (OwnS.chg (S := fun b => b = w.heap.size ∨ b = w.heap.size + 1 ∨ b = w1.heap.size ∨ b = w3.heap.size) ownr.out Chg.go xap) xpf xpf xpf xpf) (OwnW.chg (S := fun b => b = w.heap.size ∨ b = w.heap.size + 1 ∨ b = w1.heap.size ∨ b = w3.heap.size) ownp.out Chg.go xap) xpf xpf xpf xpf) xpf xpf)
    · exact Ext.go
set_option maxHeartbeats 4000000 in
set_option maxRecDepth 100000 in
theorem CloseSender_spec (s : Sn) (a : Ads) (c1 c2 c3 c4 : Nat) (w : World) (hx : ReadSnd w a ⟨s.xs, s.p, s.f, s.k⟩) (hl : s.xs.length ≤ 1048576) (hsum : s.p.length + s.f.length + s.k.length ≤ 1048576) (he : s.e ≤ 9223372036854775807) :
    Calls Try.prog 23 #[.agg #[.int .i64 s.st, .int .i64 s.z, .int .i64 s.b, .int .i64 s.e, .slice a.r s.xs.length c1, .slice a.p s.p.length c2, .slice a.f s.f.length c3, .slice a.k s.k.length c4, .int .i64 s.fi, .int .i64 s.fk, .int .i64 s.se, .int .i64 s.co]] w (SnRes (clX (sndS s) s) (.bool (canW (sndS s) s)) w) := by
  rcases Bool.eq_false_or_eq_true (sndS s) with hv | hv
  rotate_left
  · skip
    have hc : canW (sndS s) s = false := by
      rw [Bool.eq_false_iff]
      intro h
      have := canW_iff.1 h
      simp_all <;> omega
    have ha : clX (sndS s) s = s := by unfold clX; rw [hc]; rfl
    rw [ha, hc]
    clear ha
    obtain ⟨st, z, b, e, xs, p, f, k, fi, fk, se, co⟩ := s
    obtain ⟨ar, ap, af, ak⟩ := a
    dsimp only at *
    have hx' := hide hx
    clear hx
    go_enter Try.func23, Try.ntmps23
    go_wp2_with fail
    refine (l9Copy_any ⟨st, z, b, e, xs, p, f, k, fi, fk, se, co⟩ ⟨ar, ap, af, ak⟩ c1 c2 c3 c4 _ (hx'.out.ext Ext.go) hl hsum).mono ?_
    rintro en w1 ⟨d1, d2, d3, d4, cd1, cd2, cd3, cd4, rfl, ownd, hw1⟩
    have zw1 := hw1.size
    (try simp at zw1)
    have kw1_0 := hw1.more (k := w.heap.size) xpf
    obtain ⟨cw1_0, fw1_0⟩ := hw1.row (k := w.heap.size) xpf
    have kw1_1 := hw1.more (k := w.heap.size + 1) xpf
    obtain ⟨cw1_1, fw1_1⟩ := hw1.row (k := w.heap.size + 1) xpf
    have xw1 : Hid (Ext w w1) := hide (Ext.trans Ext.go hw1)
    (try simp only [World.size_alloc, World.size_drew, World.size_setCell] at ownd)
    replace ownd := hide ownd
    go_wp2_with fail
    refine (IsSender_spec ⟨st, z, b, e, xs, p, f, k, fi, fk, se, co⟩ ⟨ar, ap, af, ak⟩ c1 c2 c3 c4 _ (hx'.out.ext Ext.go) hl hsum he).mono ?_
    rintro en w2 ⟨rfl, hw2⟩
    have zw2 := hw2.size
    (try simp at zw2)
    have kw2_0 := hw2.more (k := w.heap.size) xpf
    obtain ⟨cw2_0, fw2_0⟩ := hw2.row (k := w.heap.size) xpf
    have kw2_1 := hw2.more (k := w.heap.size + 1) xpf
    obtain ⟨cw2_1, fw2_1⟩ := hw2.row (k := w.heap.size + 1) xpf
    have kw2_2 := hw2.more (k := w1.heap.size) xpf
    obtain ⟨cw2_2, fw2_2⟩ := hw2.row (k := w1.heap.size) xpf
    have xw2 : Hid (Ext w w2) := hide (Ext.trans Ext.go hw2)
    rw [hv]
    go_wp2
    refine bodyPost_ret (v := .tuple #[.agg #[.int .i64 st, .int .i64 z, .int .i64 b, .int .i64 e, .slice d1 xs.length cd1, .slice d2 p.length cd2, .slice d3 f.length cd3, .slice d4 k.length cd4, .int .i64 fi, .int .i64 fk, .int .i64 se, .int .i64 co], .bool false]) (by simp [results, Try.results23, go_sem, *]) rfl ⟨d1, d2, d3, d4, cd1, cd2, cd3, cd4, rfl, ?_, ?_⟩
    · exact (OwnSnV.mono (OwnSnV.chg (S := fun b => b = w.heap.size ∨ b = w.heap.size + 1 ∨ b = w1.heap.size) ownd.out Chg.go xap) xpf xpf)
    · exact Ext.go
  have hst := sndS_st hv
  by_cases h1 : s.st ≤ 1
  rotate_left
  · skip
    have h1e : decide (1 < s.st) = true := decide_eq_true (by omega)
    have hc : canW (sndS s) s = false := by
      rw [Bool.eq_false_iff]
      intro h
      have := canW_iff.1 h
      simp_all <;> omega
    have ha : clX (sndS s) s = s := by unfold clX; rw [hc]; rfl
    rw [ha, hc]
    clear ha
    clear h1
    obtain ⟨st, z, b, e, xs, p, f, k, fi, fk, se, co⟩ := s
    obtain ⟨ar, ap, af, ak⟩ := a
    dsimp only at *
    have hx' := hide hx
    clear hx
    go_enter Try.func23, Try.ntmps23
    go_wp2_with fail
    refine (l9Copy_any ⟨st, z, b, e, xs, p, f, k, fi, fk, se, co⟩ ⟨ar, ap, af, ak⟩ c1 c2 c3 c4 _ (hx'.out.ext Ext.go) hl hsum).mono ?_
    rintro en w1 ⟨d1, d2, d3, d4, cd1, cd2, cd3, cd4, rfl, ownd, hw1⟩
    have zw1 := hw1.size
    (try simp at zw1)
    have kw1_0 := hw1.more (k := w.heap.size) xpf
    obtain ⟨cw1_0, fw1_0⟩ := hw1.row (k := w.heap.size) xpf
    have kw1_1 := hw1.more (k := w.heap.size + 1) xpf
    obtain ⟨cw1_1, fw1_1⟩ := hw1.row (k := w.heap.size + 1) xpf
    have xw1 : Hid (Ext w w1) := hide (Ext.trans Ext.go hw1)
    (try simp only [World.size_alloc, World.size_drew, World.size_setCell] at ownd)
    replace ownd := hide ownd
    go_wp2_with fail
    refine (IsSender_spec ⟨st, z, b, e, xs, p, f, k, fi, fk, se, co⟩ ⟨ar, ap, af, ak⟩ c1 c2 c3 c4 _ (hx'.out.ext Ext.go) hl hsum he).mono ?_
    rintro en w2 ⟨rfl, hw2⟩
    have zw2 := hw2.size
    (try simp at zw2)
    have kw2_0 := hw2.more (k := w.heap.size) xpf
    obtain ⟨cw2_0, fw2_0⟩ := hw2.row (k := w.heap.size) xpf
    have kw2_1 := hw2.more (k := w.heap.size + 1) xpf
    obtain ⟨cw2_1, fw2_1⟩ := hw2.row (k := w.heap.size + 1) xpf
    have kw2_2 := hw2.more (k := w1.heap.size) xpf
    obtain ⟨cw2_2, fw2_2⟩ := hw2.row (k := w1.heap.size) xpf
    have xw2 : Hid (Ext w w2) := hide (Ext.trans Ext.go hw2)
    rw [hv]
    go_wp2
    refine bodyPost_ret (v := .tuple #[.agg #[.int .i64 st, .int .i64 z, .int .i64 b, .int .i64 e, .slice d1 xs.length cd1, .slice d2 p.length cd2, .slice d3 f.length cd3, .slice d4 k.length cd4, .int .i64 fi, .int .i64 fk, .int .i64 se, .int .i64 co], .bool false]) (by simp [results, Try.results23, go_sem, *]) rfl ⟨d1, d2, d3, d4, cd1, cd2, cd3, cd4, rfl, ?_, ?_⟩
    · exact (OwnSnV.mono (OwnSnV.chg (S := fun b => b = w.heap.size ∨ b = w.heap.size + 1 ∨ b = w1.heap.size) ownd.out Chg.go xap) xpf xpf)
    · exact Ext.go
  have h1e : decide (1 < s.st) = false := decide_eq_false (by omega)
  by_cases h3 : s.fi = -1
  rotate_left
  · skip
    have h3e : (s.fi == -1) = false := by simp [h3]
    have h3n : (s.fi != -1) = true := by simp [h3]
    have hc : canW (sndS s) s = false := by
      rw [Bool.eq_false_iff]
      intro h
      have := canW_iff.1 h
      simp_all <;> omega
    have ha : clX (sndS s) s = s := by unfold clX; rw [hc]; rfl
    rw [ha, hc]
    clear ha
    clear h3
    obtain ⟨st, z, b, e, xs, p, f, k, fi, fk, se, co⟩ := s
    obtain ⟨ar, ap, af, ak⟩ := a
    dsimp only at *
    have hx' := hide hx
    clear hx
    go_enter Try.func23, Try.ntmps23
    go_wp2_with fail
    refine (l9Copy_any ⟨st, z, b, e, xs, p, f, k, fi, fk, se, co⟩ ⟨ar, ap, af, ak⟩ c1 c2 c3 c4 _ (hx'.out.ext Ext.go) hl hsum).mono ?_
    rintro en w1 ⟨d1, d2, d3, d4, cd1, cd2, cd3, cd4, rfl, ownd, hw1⟩
    have zw1 := hw1.size
    (try simp at zw1)
    have kw1_0 := hw1.more (k := w.heap.size) xpf
    obtain ⟨cw1_0, fw1_0⟩ := hw1.row (k := w.heap.size) xpf
    have kw1_1 := hw1.more (k := w.heap.size + 1) xpf
    obtain ⟨cw1_1, fw1_1⟩ := hw1.row (k := w.heap.size + 1) xpf
    have xw1 : Hid (Ext w w1) := hide (Ext.trans Ext.go hw1)
    (try simp only [World.size_alloc, World.size_drew, World.size_setCell] at ownd)
    replace ownd := hide ownd
    go_wp2_with fail
    refine (IsSender_spec ⟨st, z, b, e, xs, p, f, k, fi, fk, se, co⟩ ⟨ar, ap, af, ak⟩ c1 c2 c3 c4 _ (hx'.out.ext Ext.go) hl hsum he).mono ?_
    rintro en w2 ⟨rfl, hw2⟩
    have zw2 := hw2.size
    (try simp at zw2)
    have kw2_0 := hw2.more (k := w.heap.size) xpf
    obtain ⟨cw2_0, fw2_0⟩ := hw2.row (k := w.heap.size) xpf
    have kw2_1 := hw2.more (k := w.heap.size + 1) xpf
    obtain ⟨cw2_1, fw2_1⟩ := hw2.row (k := w.heap.size + 1) xpf
    have kw2_2 := hw2.more (k := w1.heap.size) xpf
    obtain ⟨cw2_2, fw2_2⟩ := hw2.row (k := w1.heap.size) xpf
    have xw2 : Hid (Ext w w2) := hide (Ext.trans Ext.go hw2)
    rw [hv]
    go_wp2
    refine bodyPost_ret (v := .tuple #[.agg #[.int .i64 st, .int .i64 z, .int .i64 b, .int .i64 e, .slice d1 xs.length cd1, .slice d2 p.length cd2, .slice d3 f.length cd3, .slice d4 k.length cd4, .int .i64 fi, .int .i64 fk, .int .i64 se, .int .i64 co], .bool false]) (by simp [results, Try.results23, go_sem, *]) rfl ⟨d1, d2, d3, d4, cd1, cd2, cd3, cd4, rfl, ?_, ?_⟩
    · exact (OwnSnV.mono (OwnSnV.chg (S := fun b => b = w.heap.size ∨ b = w.heap.size + 1 ∨ b = w1.heap.size) ownd.out Chg.go xap) xpf xpf)
    · exact Ext.go
  have h3e : (s.fi == -1) = true := by simp [h3]
  have h3n : (s.fi != -1) = false := by simp [h3]
  have hc : canW (sndS s) s = true := canW_iff.2 ⟨hv, ⟨by omega, by omega⟩, h3⟩
  have ha : clX (sndS s) s = ⟨s.st, s.z, s.b, s.e, s.xs, s.p, s.f, s.k, s.e, 1, s.se, s.co⟩ := by unfold clX; rw [if_pos hc]; rfl
  rw [ha, hc]
  clear ha h3
  obtain ⟨st, z, b, e, xs, p, f, k, fi, fk, se, co⟩ := s
  obtain ⟨ar, ap, af, ak⟩ := a
  dsimp only at *
  have hx' := hide hx
  clear hx
  go_enter Try.func23, Try.ntmps23
  go_wp2_with fail
  refine (l9Copy_any ⟨st, z, b, e, xs, p, f, k, fi, fk, se, co⟩ ⟨ar, ap, af, ak⟩ c1 c2 c3 c4 _ (hx'.out.ext Ext.go) hl hsum).mono ?_
  rintro en w1 ⟨d1, d2, d3, d4, cd1, cd2, cd3, cd4, rfl, ownd, hw1⟩
  have zw1 := hw1.size
  (try simp at zw1)
  have kw1_0 := hw1.more (k := w.heap.size) xpf
  obtain ⟨cw1_0, fw1_0⟩ := hw1.row (k := w.heap.size) xpf
  have kw1_1 := hw1.more (k := w.heap.size + 1) xpf
  obtain ⟨cw1_1, fw1_1⟩ := hw1.row (k := w.heap.size + 1) xpf
  have xw1 : Hid (Ext w w1) := hide (Ext.trans Ext.go hw1)
  (try simp only [World.size_alloc, World.size_drew, World.size_setCell] at ownd)
  replace ownd := hide ownd
  go_wp2_with fail
  refine (IsSender_spec ⟨st, z, b, e, xs, p, f, k, fi, fk, se, co⟩ ⟨ar, ap, af, ak⟩ c1 c2 c3 c4 _ (hx'.out.ext Ext.go) hl hsum he).mono ?_
  rintro en w2 ⟨rfl, hw2⟩
  have zw2 := hw2.size
  (try simp at zw2)
  have kw2_0 := hw2.more (k := w.heap.size) xpf
  obtain ⟨cw2_0, fw2_0⟩ := hw2.row (k := w.heap.size) xpf
  have kw2_1 := hw2.more (k := w.heap.size + 1) xpf
  obtain ⟨cw2_1, fw2_1⟩ := hw2.row (k := w.heap.size + 1) xpf
  have kw2_2 := hw2.more (k := w1.heap.size) xpf
  obtain ⟨cw2_2, fw2_2⟩ := hw2.row (k := w1.heap.size) xpf
  have xw2 : Hid (Ext w w2) := hide (Ext.trans Ext.go hw2)
  rw [hv]
  go_wp2
  refine bodyPost_ret (v := .tuple #[.agg #[.int .i64 st, .int .i64 z, .int .i64 b, .int .i64 e, .slice d1 xs.length cd1, .slice d2 p.length cd2, .slice d3 f.length cd3, .slice d4 k.length cd4, .int .i64 e, .int .i64 1, .int .i64 se, .int .i64 co], .bool true]) (by simp [results, Try.results23, go_sem, *]) rfl ⟨d1, d2, d3, d4, cd1, cd2, cd3, cd4, rfl, ?_, ?_⟩
  · exact (OwnSnV.mono (OwnSnV.chg (S := fun b => b = w.heap.size ∨ b = w.heap.size + 1 ∨ b = w1.heap.size) ownd.out Chg.go xap) xpf xpf)
  · exact Ext.go
end
end Go.Proofs.Ytjhgcbchdnoleaa
