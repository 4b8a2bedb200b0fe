/-
  Part of the proof: SnI, SnLP, SnD, SnB.
-/
import Derived.Test.YtjhgcbchdnoleaaPSnA
import Derived.Test.YtjhgcbchdnoleaaPG8
namespace Go.Proofs.Ytjhgcbchdnoleaa
section
open Go.ChangeShapes Go.WideShapes Go.ChangeAt Go.RowKit
set_option linter.unusedSimpArgs false
set_option linter.unusedVariables false
structure Pc where
  off : Int
  d : ByteArray
  fin : Bool
def zPc : Pc := ⟨0, ⟨#[]⟩, false⟩
/-- How many bytes of a pending range go into a piece. -/
def nxN (r : Rg) (most limit : Int) : Int := min (min (r.2 - r.1) most) (limit - r.1)
def nxP (v : Bool) (s : Sn) (most limit : Int) : Pc := if actV v s = true then (match s.p with
  | [] => if s.fk = 1 then ⟨s.fi, ⟨#[]⟩, true⟩ else zPc
  | r :: _ => if 0 < nxN r most limit then ⟨r.1, pkS ⟨s.z, s.b, s.e, s.xs⟩ r.1 (nxN r most limit), decide (s.fk = 1) && decide (r.1 + nxN r most limit = s.fi)⟩ else zPc) else zPc
def nxB (v : Bool) (s : Sn) (most limit : Int) : Bool := actV v s && (match s.p with
  | [] => decide (s.fk = 1)
  | r :: _ => decide (0 < nxN r most limit))
theorem nx_no {v : Bool} {s : Sn} {m l : Int} (h : actV v s = false) : nxP v s m l = zPc ∧ nxB v s m l = false := by
  simp [nxP, nxB, h]
theorem nx_nil1 {v : Bool} {s : Sn} {m l : Int} (h : actV v s = true) (hp : s.p = []) (hf : s.fk = 1) : nxP v s m l = ⟨s.fi, ⟨#[]⟩, true⟩ ∧ nxB v s m l = true := by
  simp [nxP, nxB, h, hp, hf]
theorem nx_nil0 {v : Bool} {s : Sn} {m l : Int} (h : actV v s = true) (hp : s.p = []) (hf : ¬ s.fk = 1) : nxP v s m l = zPc ∧ nxB v s m l = false := by
  simp [nxP, nxB, h, hp, hf]
theorem nx_none {v : Bool} {s : Sn} {m l : Int} {r : Rg} {t : List Rg} (h : actV v s = true) (hp : s.p = r :: t) (hn : nxN r m l ≤ 0) : nxP v s m l = zPc ∧ nxB v s m l = false := by
  have hn2 : ¬ 0 < nxN r m l := by omega
  simp [nxP, nxB, h, hp, hn2]
theorem nx_some {v : Bool} {s : Sn} {m l n : Int} {r : Rg} {t : List Rg} (h : actV v s = true) (hp : s.p = r :: t) (hn : nxN r m l = n) (h0 : 0 < n) : nxP v s m l = ⟨r.1, pkS ⟨s.z, s.b, s.e, s.xs⟩ r.1 n, decide (s.fk = 1) && decide (r.1 + n = s.fi)⟩ ∧ nxB v s m l = true := by
  subst hn
  simp [nxP, nxB, h, hp, h0]
/-- Whether a piece lies within what was written. -/
def pieceIn (s : Sn) (o : Int) (n : Nat) (fin : Bool) : Bool := decide (0 ≤ o) && (decide (o ≤ s.e) && (decide ((n : Int) ≤ s.e - o) && (!fin || decide (o + n = s.fi))))
theorem int_beq (x y : Int) : (x == y) = decide (x = y) := by
  by_cases h : x = y <;> simp [h]
theorem l9Range_any (o : Int) (d : ByteArray) (fin : Bool) (w : World) (ho : -1000000 ≤ o ∧ o ≤ 4611686018427387903) (hd : (d.size : Int) ≤ 1048576) :
    Calls Try.prog 98 #[.agg #[.int .i64 o, .string d, .bool fin]] w fun en w' => en = .returned (.agg #[.int .i64 o, .int .i64 (o + (d.size : Int))]) ∧ Ext w w' := by
  have hw2 : IntKind.i64.wrap (o + (d.size : Int)) = o + (d.size : Int) := IntWalk.i64_in _ (by omega)
  go_enter Try.func98, Try.ntmps98
  go_wp2
  refine bodyPost_ret (v := .agg #[.int .i64 o, .int .i64 (o + (d.size : Int))]) (by simp [results, Try.results98, go_sem, *]) rfl ⟨rfl, Ext.go⟩
set_option maxHeartbeats 4000000 in
set_option maxRecDepth 100000 in
theorem l9Piece_any (s : Sn) (a : Ads) (c1 c2 c3 c4 : Nat) (o : Int) (d : ByteArray) (fin : Bool) (w : World) (ho : -1000000 ≤ o ∧ o ≤ 4611686018427387903) (he : -1 ≤ s.e ∧ s.e ≤ 4611686018427387903) (hd : (d.size : Int) ≤ 1048576) :
    Calls Try.prog 97 #[.agg #[.int .i64 s.st, .int .i64 s.z, .int .i64 s.b, .int .i64 s.e, .slice a.r s.xs.length c1, .slice a.p s.p.length c2, .slice a.f s.f.length c3, .slice a.k s.k.length c4, .int .i64 s.fi, .int .i64 s.fk, .int .i64 s.se, .int .i64 s.co], .agg #[.int .i64 o, .string d, .bool fin]] w fun en w' => en = .returned (.bool (pieceIn s o d.size fin)) ∧ Ext w w' := by
  have hw1 : IntKind.i64.wrap (s.e - o) = s.e - o := IntWalk.i64_in _ (by omega)
  have hw2 : IntKind.i64.wrap (o + (d.size : Int)) = o + (d.size : Int) := IntWalk.i64_in _ (by omega)
  by_cases h1 : 0 ≤ o
  rotate_left
  · have h1e : decide (0 ≤ o) = false := decide_eq_false (by omega)
    have hc : pieceIn s o d.size fin = false := by unfold pieceIn; simp [*]
    rw [hc]
    clear hc
    (try replace h4 := hide h4)
    obtain ⟨st, z, b, e, xs, p, f, k, fi, fk, se, co⟩ := s
    obtain ⟨ar, ap, af, ak⟩ := a
    dsimp only at *
    go_enter Try.func97, Try.ntmps97
    go_wp2
    go_ret
    exact ⟨rfl, Ext.go⟩
  have h1e : decide (0 ≤ o) = true := decide_eq_true (by omega)
  by_cases h2 : o ≤ s.e
  rotate_left
  · have h2e : decide (o ≤ s.e) = false := decide_eq_false (by omega)
    have hc : pieceIn s o d.size fin = false := by unfold pieceIn; simp [*]
    rw [hc]
    clear hc
    (try replace h4 := hide h4)
    obtain ⟨st, z, b, e, xs, p, f, k, fi, fk, se, co⟩ := s
    obtain ⟨ar, ap, af, ak⟩ := a
    dsimp only at *
    go_enter Try.func97, Try.ntmps97
    go_wp2
    go_ret
    exact ⟨rfl, Ext.go⟩
  have h2e : decide (o ≤ s.e) = true := decide_eq_true (by omega)
  by_cases h3 : (d.size : Int) ≤ s.e - o
  rotate_left
  · have h3e : decide ((d.size : Int) ≤ s.e - o) = false := decide_eq_false (by omega)
    have hc : pieceIn s o d.size fin = false := by unfold pieceIn; simp [*]
    rw [hc]
    clear hc
    (try replace h4 := hide h4)
    obtain ⟨st, z, b, e, xs, p, f, k, fi, fk, se, co⟩ := s
    obtain ⟨ar, ap, af, ak⟩ := a
    dsimp only at *
    go_enter Try.func97, Try.ntmps97
    go_wp2
    go_ret
    exact ⟨rfl, Ext.go⟩
  have h3e : decide ((d.size : Int) ≤ s.e - o) = true := decide_eq_true (by omega)
  cases fin
  · skip
    have hc : pieceIn s o d.size false = true := by unfold pieceIn; simp [*]
    rw [hc]
    clear hc
    (try replace h4 := hide h4)
    obtain ⟨st, z, b, e, xs, p, f, k, fi, fk, se, co⟩ := s
    obtain ⟨ar, ap, af, ak⟩ := a
    dsimp only at *
    go_enter Try.func97, Try.ntmps97
    go_wp2
    go_ret
    exact ⟨rfl, Ext.go⟩
  by_cases h5 : s.fi = -1
  · have h5n : (s.fi != -1) = false := by simp [h5]
    have h4 : ¬ (o + (d.size : Int) = s.fi) := by omega
    replace h5 := hide h5
    have hc : pieceIn s o d.size true = false := by unfold pieceIn; simp [*]
    rw [hc]
    clear hc
    (try replace h4 := hide h4)
    obtain ⟨st, z, b, e, xs, p, f, k, fi, fk, se, co⟩ := s
    obtain ⟨ar, ap, af, ak⟩ := a
    dsimp only at *
    go_enter Try.func97, Try.ntmps97
    go_wp2
    go_ret
    exact ⟨rfl, Ext.go⟩
  have h5n : (s.fi != -1) = true := by simp [h5]
  replace h5 := hide h5
  by_cases h4 : o + (d.size : Int) = s.fi
  · have h4e : (o + (d.size : Int) == s.fi) = true := by simp [h4]
    have hc : pieceIn s o d.size true = true := by unfold pieceIn; simp [*]
    rw [hc]
    clear hc
    (try replace h4 := hide h4)
    obtain ⟨st, z, b, e, xs, p, f, k, fi, fk, se, co⟩ := s
    obtain ⟨ar, ap, af, ak⟩ := a
    dsimp only at *
    go_enter Try.func97, Try.ntmps97
    go_wp2
    go_ret
    exact ⟨rfl, Ext.go⟩
  have h4e : (o + (d.size : Int) == s.fi) = false := by simp [h4]
  have hc : pieceIn s o d.size true = false := by unfold pieceIn; simp [*]
  rw [hc]
  clear hc
  (try replace h4 := hide h4)
  obtain ⟨st, z, b, e, xs, p, f, k, fi, fk, se, co⟩ := s
  obtain ⟨ar, ap, af, ak⟩ := a
  dsimp only at *
  go_enter Try.func97, Try.ntmps97
  go_wp2
  go_ret
  exact ⟨rfl, Ext.go⟩
theorem str_empty (s : ByteArray) : s.toList.isEmpty = decide (s.size = 0) := by
  rw [ByteArray.toList_eq]
  have h : s.size = s.data.toList.length := (Array.length_toList (xs := s.data)).symm
  rw [h]
  cases s.data.toList <;> simp
theorem read_made {X : World} {B : Nat} (o h : Int) (hb : B = X.heap.size) : ReadR (X.alloc (.cells #[.int .i64 o, .int .i64 h] 61)) (some ⟨B, 0, none⟩) [(o, h)] := by
  subst hb
  refine Or.inr ⟨X.heap.size, 0, rfl, fun j hj => ?_⟩
  obtain rfl : j = 0 := by simp at hj; omega
  simp [go_sem]
end
section
open Go.ChangeShapes Go.WideShapes Go.ChangeAt Go.RowKit
set_option linter.unusedSimpArgs false
set_option linter.unusedVariables false
def seOk (v : Bool) (s : Sn) (o : Int) (d : ByteArray) (fin : Bool) : Bool := actV v s && (pieceIn s o d.size fin && ((!decide (d.size = 0) || fin) && ((!fin || decide (s.fk = 1)) && (decide (d.size = 0) || decide (comR s.p (o, o + (d.size : Int)) = [(o, o + (d.size : Int))])))))
def seX (v : Bool) (s : Sn) (o : Int) (d : ByteArray) (fin : Bool) : Sn := if seOk v s o d fin = true then seV s o d.size fin else s
theorem seX_no {v : Bool} {s : Sn} {o : Int} {d : ByteArray} {fin : Bool} (h : seOk v s o d fin = false) : seX v s o d fin = s := by unfold seX; rw [h]; rfl
theorem seX_yes {v : Bool} {s : Sn} {o : Int} {d : ByteArray} {fin : Bool} (h : seOk v s o d fin = true) : seX v s o d fin = seV s o d.size fin := if_pos h
theorem rgs_len {l : List Rg} {m : Int} (h : isRgs l = true) (ht : TopR m l) (h0 : 0 ≤ m) : (l.length : Int) ≤ m := by
  have hc := (rgsFrom_can h).1
  have h1 := rgSum_len hc
  have h2 := rgSum_top hc ht h0
  omega
theorem rem_take_succ {p l : List Rg} {i : Nat} (hi : i < l.length) : (l.take (i + 1)).foldl remR p = remR ((l.take i).foldl remR p) (l.getD i dr) := by
  rw [takeR_succ l hi, List.foldl_append]; rfl
theorem comR_len (l : List Rg) (r : Rg) : (comR l r).length ≤ l.length := by
  unfold comR
  split
  · exact comRec_length r l
  · simp
/-- The sets of a valid sender are short. -/
theorem Vld.lens {s : Sn} (h : Vld s) (he : s.e ≤ 1000) : s.p.length ≤ 1000 ∧ s.f.length ≤ 1000 ∧ s.k.length ≤ 1000 := by
  obtain ⟨e0, e1⟩ := h.e_nat
  obtain ⟨t1, t2, t3⟩ := whole_tops h.hd.rp h.hd.rf h.hd.rk (fun n hn => ((h.wh.1 n).1 hn).2)
  have a1 := rgs_len h.hd.rp t1 e0
  have a2 := rgs_len h.hd.rf t2 e0
  have a3 := rgs_len h.hd.rk t3 e0
  omega
theorem rem_take_len {s : Sn} (h : Vld s) (he : s.e ≤ 1000) {o : Int} {n : Nat} (h0 : 0 ≤ o) (h1 : o + n ≤ s.e) (i : Nat) : (((hit s.f o n).take i).foldl remR s.f).length ≤ 1000 := by
  obtain ⟨e0, e1⟩ := h.e_nat
  obtain ⟨t1, t2, t3⟩ := whole_tops h.hd.rp h.hd.rf h.hd.rk (fun n hn => ((h.wh.1 n).1 hn).2)
  obtain ⟨q1, q2⟩ := hit_in h.hd.rf (off := o) (n := n) h0 (by omega)
  obtain ⟨a1, a2⟩ := fold_rem (c := (hit s.f o n).take i) h.hd.rf (fun r hr => q1 r (List.mem_of_mem_take hr))
  have := rgs_len a1 (top_of_in (rgsFrom_can a1).1 (fun m hm => in_of_top t2 m ((a2 m).1 hm).1)) e0
  omega
theorem pieceIn_bd {s : Sn} {o : Int} {n : Nat} {fin : Bool} (h : pieceIn s o n fin = true) : 0 ≤ o ∧ o + n ≤ s.e := by
  simp only [pieceIn, Bool.and_eq_true, decide_eq_true_eq] at h
  omega
/-- Whether a report is heard. -/
def hearS (v : Bool) (s : Sn) (o : Int) (d : ByteArray) (fin : Bool) : Bool := actV v s && pieceIn s o d.size fin
def loX (v : Bool) (s : Sn) (o : Int) (d : ByteArray) (fin : Bool) : Sn := if hearS v s o d fin = true then loV s o d.size fin else s
def akX (v : Bool) (s : Sn) (o : Int) (d : ByteArray) (fin : Bool) : Sn := if hearS v s o d fin = true then akV s o d.size fin else s
theorem hear_v {v : Bool} {s : Sn} {o : Int} {d : ByteArray} {fin : Bool} (h : actV v s = false) : hearS v s o d fin = false := by
  unfold hearS; rw [h]; rfl
theorem hear_i {v : Bool} {s : Sn} {o : Int} {d : ByteArray} {fin : Bool} (h : pieceIn s o d.size fin = false) : hearS v s o d fin = false := by
  unfold hearS; rw [h, Bool.and_false]
theorem loX_no {v : Bool} {s : Sn} {o : Int} {d : ByteArray} {fin : Bool} (h : hearS v s o d fin = false) : loX v s o d fin = s := by unfold loX; rw [h]; rfl
theorem akX_no {v : Bool} {s : Sn} {o : Int} {d : ByteArray} {fin : Bool} (h : hearS v s o d fin = false) : akX v s o d fin = s := by unfold akX; rw [h]; rfl
theorem finV_q (fin : Bool) (fk u : Int) : finV fin fk u = bif (fin && decide (fk = 2)) then u else fk := by
  unfold finV
  cases fin
  · simp
  · by_cases h : fk = 2 <;> simp [h]
theorem act_no {v : Bool} {s : Sn} (h : ¬ (v = true ∧ 0 ≤ s.st ∧ s.st ≤ 2)) : actV v s = false := by
  rw [Bool.eq_false_iff]; exact fun hh => h (actV_iff.1 hh)
end
section
open Go.ChangeShapes Go.WideShapes Go.ChangeAt Go.RowKit
set_option linter.unusedSimpArgs false
set_option linter.unusedVariables false
/-- A sender that draws have made: valid, small. -/
structure SnDr (m : Int) (s : Sn) : Prop where
  len : s.xs.length ≤ 16
  e0 : 0 ≤ s.e
  em : s.e ≤ m
  ok : Vld s ∨ (isRst s = true ∧ sndI s = true)
theorem SnDr.mono {m m' : Int} {s : Sn} (h : SnDr m s) (k : m ≤ m') : SnDr m' s := ⟨h.len, h.e0, Int.le_trans h.em k, h.ok⟩
theorem SnDr.act {m : Int} {s : Sn} (h : SnDr m s) (h3 : s.st ≤ 3) : Vld s := by
  rcases h.ok with h | h
  · exact h
  · have := h.1
    simp only [isRst, Bool.or_eq_true, decide_eq_true_eq] at this
    omega
theorem SnDr.vld {m : Int} {s : Sn} (h : SnDr m s) {v : Bool} (ha : actV v s = true) : Vld s := h.act (by have := actV_iff.1 ha; omega)
theorem SnDr.sndI {m : Int} {s : Sn} (h : SnDr m s) (hm : m ≤ 1000) : sndI s = true := by
  rcases h.ok with k | k
  · exact k.sndI (by have := h.em; omega)
  · exact k.2
theorem rst_nil {s : Sn} (h : isRst s = true) (hs : sndI s = true) : s.p = [] ∧ s.f = [] ∧ s.k = [] := by
  unfold Go.Proofs.Ytjhgcbchdnoleaa.sndI at hs
  rw [if_pos h, Bool.and_eq_true] at hs
  simp only [sndRst, Bool.and_eq_true, decide_eq_true_eq] at hs
  exact ⟨List.length_eq_zero_iff.1 hs.2.2.1, List.length_eq_zero_iff.1 hs.2.2.2.1, List.length_eq_zero_iff.1 hs.2.2.2.2.1⟩
theorem SnDr.lens {m : Int} {s : Sn} (h : SnDr m s) (hm : m ≤ 1000) : s.p.length ≤ 1000 ∧ s.f.length ≤ 1000 ∧ s.k.length ≤ 1000 := by
  rcases h.ok with k | k
  · exact k.lens (by have := h.em; omega)
  · obtain ⟨e1, e2, e3⟩ := rst_nil k.1 k.2
    rw [e1, e2, e3]; simp
theorem SnDr.new {z : Int} (hz : z = 4 ∨ z = 8 ∨ z = 16) : SnDr 0 (newSn z) := by
  have hr : ringSz z = true := by rcases hz with rfl | rfl | rfl <;> decide
  refine ⟨?_, Int.le_refl _, Int.le_refl _, Or.inl (new_act hr)⟩
  show (List.replicate z.toNat (0 : Int)).length ≤ 16
  rw [List.length_replicate]; omega
theorem SnDr.wr {m : Int} {s : Sn} (h : SnDr m s) {d : ByteArray} (hd : (d.size : Int) ≤ 5) (v : Bool) : SnDr (m + 5) (wrX v s d) := by
  unfold wrX
  split
  · rename_i hc
    obtain ⟨-, ⟨h0, h1⟩, hf⟩ := canW_iff.1 hc
    have hV := h.act (by omega)
    have hb := wrN_bd s d hV.hd.ring
    refine ⟨?_, ?_, ?_, Or.inl (wr_act hV hf d)⟩
    · show (setN s.xs s.z s.e (byteAt d) (wrN s d)).length ≤ 16
      rw [setN_length]; exact h.len
    · show 0 ≤ s.e + (wrN s d : Int)
      have := h.e0; omega
    · show s.e + (wrN s d : Int) ≤ m + 5
      have := h.em; omega
  · exact h.mono (by omega)
theorem SnDr.cl {m : Int} {s : Sn} (h : SnDr m s) (v : Bool) : SnDr m (clX v s) := by
  unfold clX
  split
  · rename_i hc
    obtain ⟨-, ⟨h0, h1⟩, hf⟩ := canW_iff.1 hc
    exact ⟨h.len, h.e0, h.em, Or.inl (cl_act (h.act (by omega)) hf)⟩
  · exact h
theorem SnDr.rs {m : Int} {s : Sn} (h : SnDr m s) (v : Bool) (co : Int) : SnDr m (rsX v s co) := by
  unfold rsX
  split
  · rename_i hc
    simp only [rsOk, Bool.and_eq_true] at hc
    have hV := h.vld hc.1
    have hb := inB_true hc.2
    have hr := isRing_bd hV.hd.ring
    have h1 := hV.hd.se0
    have h2 := hV.hd.se1
    have := h.em
    have hl := h.len
    refine ⟨?_, h1, ?_, Or.inr ⟨rfl, rs_snd hV.hd hb.1 hb.2⟩⟩
    · show (List.replicate s.z.toNat (0 : Int)).length ≤ 16
      rw [List.length_replicate]; omega
    · show s.se ≤ m
      omega
  · exact h
theorem seOk_parts {v : Bool} {s : Sn} {o : Int} {d : ByteArray} {fin : Bool} (h : seOk v s o d fin = true) : actV v s = true ∧ pieceIn s o d.size fin = true ∧ (fin = true → s.fk = 1) ∧ (d.size ≠ 0 → comR s.p (o, o + (d.size : Int)) = [(o, o + (d.size : Int))]) := by
  simp only [seOk, Bool.and_eq_true, Bool.or_eq_true, Bool.not_eq_true', decide_eq_true_eq, decide_eq_false_iff_not] at h
  obtain ⟨h1, h2, -, h4, h5⟩ := h
  refine ⟨h1, h2, fun hf => ?_, fun h0 => h5.resolve_left h0⟩
  rcases h4 with h4 | h4
  · rw [hf] at h4; cases h4
  · exact h4
theorem SnDr.se {m : Int} {s : Sn} (h : SnDr m s) (v : Bool) (o : Int) (d : ByteArray) (fin : Bool) : SnDr m (seX v s o d fin) := by
  unfold seX
  split
  · rename_i hc
    obtain ⟨h1, h2, h3, h4⟩ := seOk_parts hc
    have hp := pieceIn_bd h2
    exact ⟨h.len, h.e0, h.em, Or.inl (se_act (h.vld h1) hp.1 hp.2 h4 h3)⟩
  · exact h
theorem hear_parts {v : Bool} {s : Sn} {o : Int} {d : ByteArray} {fin : Bool} (h : hearS v s o d fin = true) : actV v s = true ∧ 0 ≤ o ∧ o + (d.size : Int) ≤ s.e := by
  simp only [hearS, Bool.and_eq_true] at h
  exact ⟨h.1, pieceIn_bd h.2⟩
theorem SnDr.lo {m : Int} {s : Sn} (h : SnDr m s) (v : Bool) (o : Int) (d : ByteArray) (fin : Bool) : SnDr m (loX v s o d fin) := by
  unfold loX
  split
  · rename_i hc
    obtain ⟨h1, h2, h3⟩ := hear_parts hc
    exact ⟨h.len, h.e0, h.em, Or.inl (lo_act (h.vld h1) h2 h3)⟩
  · exact h
theorem SnDr.ak {m : Int} {s : Sn} (h : SnDr m s) (v : Bool) (o : Int) (d : ByteArray) (fin : Bool) : SnDr m (akX v s o d fin) := by
  unfold akX
  split
  · rename_i hc
    obtain ⟨h1, h2, h3⟩ := hear_parts hc
    refine ⟨?_, h.e0, h.em, Or.inl (ak_act (h.vld h1) h2 h3)⟩
    show (setN s.xs s.z s.b (fun _ => 0) (akB s o d.size - s.b).toNat).length ≤ 16
    rw [setN_length]; exact h.len
  · exact h
/-- A drawn sender, altered or not. -/
structure SnAny (s : Sn) : Prop where
  len : s.xs.length ≤ 16
  e : 0 ≤ s.e ∧ s.e ≤ 100
  p : s.p.length ≤ 1001
  f : s.f.length ≤ 1000
  k : s.k.length ≤ 1000
  st : -1 ≤ s.st ∧ s.st ≤ 1000
  fk : -1 ≤ s.fk ∧ s.fk ≤ 1000
  se : -1 ≤ s.se ∧ s.se ≤ 1000
  fi : -1 ≤ s.fi ∧ s.fi ≤ 1000
  rf : isRgs s.f = true ∧ TopR 100 s.f
  same : sndI s = sndS s
theorem SnDr.bds {m : Int} {s : Sn} (h : SnDr m s) (hm : m ≤ 100) : (-1 ≤ s.st ∧ s.st ≤ 1000) ∧ (-1 ≤ s.fk ∧ s.fk ≤ 1000) ∧ (-1 ≤ s.se ∧ s.se ≤ 1000) ∧ (-1 ≤ s.fi ∧ s.fi ≤ 1000) ∧ (isRgs s.f = true ∧ TopR 100 s.f) ∧ TopR s.e (joinR s.p s.f s.k) := by
  have hs := h.sndI (by omega)
  obtain ⟨hd, ht⟩ := valid_top (by have := h.em; omega) hs
  have hst := sndI_st hs
  have h1 := hd.fk0
  have h2 := hd.fk1
  have h3 := hd.se0
  have h4 := hd.se1
  have h5 := h.em
  have h6 := h.e0
  have hfi : -1 ≤ s.fi ∧ s.fi ≤ 1000 := by
    rcases h.ok with k | k
    · have h2 : s.fi = if s.fk = 0 then -1 else s.e := k.fi
      rw [h2]
      split <;> omega
    · have hq := k.2
      unfold Go.Proofs.Ytjhgcbchdnoleaa.sndI at hq
      rw [if_pos k.1, Bool.and_eq_true] at hq
      simp only [sndRst, Bool.and_eq_true, decide_eq_true_eq] at hq
      have := hq.2.2.2.2.2.1
      omega
  refine ⟨by omega, by omega, by omega, hfi, ⟨hd.rf, ?_⟩, ht⟩
  rcases h.ok with k | k
  · obtain ⟨t1, t2, t3⟩ := whole_tops k.hd.rp k.hd.rf k.hd.rk (fun n hn => ((k.wh.1 n).1 hn).2)
    exact fun r hr => by have := t2 r hr; omega
  · rw [(rst_nil k.1 k.2).2.1]
    exact fun r hr => by simp at hr
theorem SnDr.any {m : Int} {s : Sn} (h : SnDr m s) (hm : m ≤ 100) (st fk se : Int) (hst : -1 ≤ st ∧ st ≤ 1000) (hfk : -1 ≤ fk ∧ fk ≤ 1000) (hse : -1 ≤ se ∧ se ≤ 1000) : SnAny ⟨st, s.z, s.b, s.e, s.xs, s.p, s.f, s.k, s.fi, fk, se, s.co⟩ := by
  obtain ⟨b1, b2, b3, b4, b5, b6⟩ := h.bds hm
  obtain ⟨l1, l2, l3⟩ := h.lens (by omega)
  have he := h.em
  exact ⟨h.len, ⟨h.e0, by show s.e ≤ 100; omega⟩, by show s.p.length ≤ 1001; omega, l2, l3, hst, hfk, hse, b4, b5, snd_same (by show s.e ≤ _; omega) (fun _ => b6)⟩
theorem SnDr.any0 {m : Int} {s : Sn} (h : SnDr m s) (hm : m ≤ 100) : SnAny s := by
  obtain ⟨b1, b2, b3, b4, b5, b6⟩ := h.bds hm
  exact h.any hm s.st s.fk s.se b1 b2 b3
theorem rgSum_app : ∀ (a b : List Rg), rgSum (a ++ b) = rgSum a + rgSum b
  | [], b => by simp [rgSum]
  | r :: a, b => by
    rw [List.cons_append]
    simp only [rgSum]
    rw [rgSum_app a b]
    omega
theorem SnDr.anyP {m : Int} {s : Sn} (h : SnDr m s) (hm : m ≤ 100) (x : Int) (hx : 0 ≤ x ∧ x ≤ 8) : SnAny ⟨s.st, s.z, s.b, s.e, s.xs, s.p ++ [(x, 9)], s.f, s.k, s.fi, s.fk, s.se, s.co⟩ := by
  obtain ⟨b1, b2, b3, b4, b5, b6⟩ := h.bds hm
  obtain ⟨l1, l2, l3⟩ := h.lens (by omega)
  have he := h.em
  have he0 := h.e0
  refine ⟨h.len, ⟨h.e0, by show s.e ≤ 100; omega⟩, by show (s.p ++ [(x, 9)]).length ≤ 1001; rw [List.length_append, List.length_singleton]; omega, l2, l3, b1, b2, b3, b4, b5, ?_⟩
  rcases Bool.eq_false_or_eq_true (sndHd ⟨s.st, s.z, s.b, s.e, s.xs, s.p ++ [(x, 9)], s.f, s.k, s.fi, s.fk, s.se, s.co⟩) with hh | hh
  · have hd := (sndHd_iff _).1 hh
    rcases h.ok with k | k
    · have hr : isRst ⟨s.st, s.z, s.b, s.e, s.xs, s.p ++ [(x, 9)], s.f, s.k, s.fi, s.fk, s.se, s.co⟩ = false := k.not
      obtain ⟨t1, t2, t3⟩ := whole_tops k.hd.rp k.hd.rf k.hd.rk (fun n hn => ((k.wh.1 n).1 hn).2)
      have hs := cntSum_yes (m := 1000) hd.rp k.hd.rf k.hd.rk (by omega) (by omega) (fun r hr => by
        rcases List.mem_append.1 hr with hr | hr
        · have := t1 r hr; omega
        · obtain rfl := List.mem_singleton.1 hr
          show (9 : Int) ≤ 1000; omega) (fun r hr => by have := t2 r hr; omega) (fun r hr => by have := t3 r hr; omega)
      obtain ⟨mm, hmm⟩ : ∃ n : Nat, s.e = (n : Int) := ⟨s.e.toNat, by omega⟩
      have hw := whole_sum (m := mm) k.hd.rp k.hd.rf k.hd.rk (by rw [← hmm]; exact k.wh)
      have ha : rgSum (s.p ++ [(x, 9)]) = rgSum s.p + (9 - x) := by rw [rgSum_app]; simp [rgSum]
      have hne : ¬ cntSum (s.p ++ [(x, 9)]) s.f s.k = s.e := by
        dsimp only at hs
        rw [hs, ha]; omega
      have e1 : wholeI ⟨s.st, s.z, s.b, s.e, s.xs, s.p ++ [(x, 9)], s.f, s.k, s.fi, s.fk, s.se, s.co⟩ = false := by
        unfold wholeI; dsimp only; rw [decide_eq_false hne]; rfl
      have e2 : wholeS ⟨s.st, s.z, s.b, s.e, s.xs, s.p ++ [(x, 9)], s.f, s.k, s.fi, s.fk, s.se, s.co⟩ = false := by
        unfold wholeS; dsimp only; rw [decide_eq_false hne]; simp
      unfold Go.Proofs.Ytjhgcbchdnoleaa.sndI sndS
      rw [hr, e1, e2]; simp
    · have hr : isRst ⟨s.st, s.z, s.b, s.e, s.xs, s.p ++ [(x, 9)], s.f, s.k, s.fi, s.fk, s.se, s.co⟩ = true := k.1
      unfold Go.Proofs.Ytjhgcbchdnoleaa.sndI sndS
      rw [hr]; simp
  · unfold Go.Proofs.Ytjhgcbchdnoleaa.sndI sndS
    rw [hh]; simp
end
section
open Go.ChangeShapes Go.WideShapes Go.ChangeAt Go.RowKit
set_option linter.unusedSimpArgs false
set_option linter.unusedVariables false
/-- The slices of a sender in blocks from lo up to hi, none of them block B. -/
def OwnSnB (B lo hi : Nat) (w : World) (a : Ads) (cp : Nat) (c : Con) : Prop :=
  ∃ l1 u1 l2 u2 l3 u3 l4 u4 : Nat, ((lo ≤ l1 ∧ u1 ≤ hi) ∧ (lo ≤ l2 ∧ u2 ≤ hi) ∧ (lo ≤ l3 ∧ u3 ≤ hi) ∧ (lo ≤ l4 ∧ u4 ≤ hi)) ∧ ((u1 ≤ B ∨ B < l1) ∧ (u2 ≤ B ∨ B < l2) ∧ (u3 ≤ B ∨ B < l3) ∧ (u4 ≤ B ∨ B < l4)) ∧ (Ap l1 u1 l2 u2 ∧ Ap l1 u1 l3 u3 ∧ Ap l1 u1 l4 u4 ∧ Ap l2 u2 l3 u3 ∧ Ap l2 u2 l4 u4 ∧ Ap l3 u3 l4 u4) ∧ OwnS l1 u1 w a.r c.r ∧ OwnW l2 u2 w a.p cp c.p ∧ OwnR l3 u3 w a.f c.f ∧ OwnR l4 u4 w a.k c.k
theorem OwnSnB.snv {B lo hi cp : Nat} {w : World} {a : Ads} {c : Con} (h : OwnSnB B lo hi w a cp c) : OwnSnV lo hi w a cp c := by
  obtain ⟨l1, u1, l2, u2, l3, u3, l4, u4, hb, -, ha, h⟩ := h
  exact ⟨l1, u1, l2, u2, l3, u3, l4, u4, hb, ha, h⟩
theorem OwnSnB.of {B lo hi hi' cp : Nat} {w : World} {a : Ads} {c : Con} (h : OwnSnV lo hi w a cp c) (hB : hi ≤ B) (hh : hi ≤ hi') : OwnSnB B lo hi' w a cp c := by
  obtain ⟨l1, u1, l2, u2, l3, u3, l4, u4, hb, ha, h⟩ := h
  exact ⟨l1, u1, l2, u2, l3, u3, l4, u4, by omega, by omega, ha, h⟩
theorem OwnSnB.chg {B lo hi cp : Nat} {S : Nat → Prop} {w w' : World} {a : Ads} {c : Con} (h : OwnSnB B lo hi w a cp c) (hx : Chg S w w') (hS : ∀ b, lo ≤ b → b < B → ¬ S b) (hT : ∀ b, B + 1 ≤ b → b < hi → ¬ S b := by exact xap) : OwnSnB B lo hi w' a cp c := by
  obtain ⟨l1, u1, l2, u2, l3, u3, l4, u4, hb, hB, ha, h1, h2, h3, h4⟩ := h
  have hS : ∀ l u, lo ≤ l → u ≤ hi → (u ≤ B ∨ B < l) → ∀ b, l ≤ b → b < u → ¬ S b := fun l u k1 k2 k3 b k4 k5 => by
    rcases k3 with k3 | k3
    · exact hS b (by omega) (by omega)
    · exact hT b (by omega) (by omega)
  exact ⟨l1, u1, l2, u2, l3, u3, l4, u4, hb, hB, ha, h1.chg hx (hS _ _ hb.1.1 hb.1.2 hB.1), h2.chg hx (hS _ _ hb.2.1.1 hb.2.1.2 hB.2.1), h3.chg hx (hS _ _ hb.2.2.1.1 hb.2.2.1.2 hB.2.2.1), h4.chg hx (hS _ _ hb.2.2.2.1 hb.2.2.2.2 hB.2.2.2)⟩
theorem OwnSnB.mono {B lo hi lo' hi' cp : Nat} {w : World} {a : Ads} {c : Con} (h : OwnSnB B lo hi w a cp c) (h1 : lo' ≤ lo) (h2 : hi ≤ hi') : OwnSnB B lo' hi' w a cp c := by
  obtain ⟨l1, u1, l2, u2, l3, u3, l4, u4, hb, hB, ha, h⟩ := h
  exact ⟨l1, u1, l2, u2, l3, u3, l4, u4, by omega, hB, ha, h⟩
theorem OwnSnB.setR {B lo hi cp l u hi' : Nat} {w : World} {a : Ads} {c : Con} {ar : Option Addr} {xs : List Int} (h : OwnSnB B lo hi w a cp c) (hr : OwnS l u w ar xs) (b0 : lo ≤ l) (b1 : hi ≤ l) (b2 : u ≤ hi') (b3 : hi ≤ hi') (b4 : B < l) : OwnSnB B lo hi' w ⟨ar, a.p, a.f, a.k⟩ cp ⟨xs, c.p, c.f, c.k⟩ := by
  obtain ⟨l1, u1, l2, u2, l3, u3, l4, u4, hb, hB, ⟨q1, q2, q3, q4, q5, q6⟩, h1, h2, h3, h4⟩ := h
  exact ⟨l, u, l2, u2, l3, u3, l4, u4, by omega, by omega, ⟨Or.inr (by omega), Or.inr (by omega), Or.inr (by omega), q4, q5, q6⟩, hr, h2, h3, h4⟩
theorem OwnSnB.setP {B lo hi cp l u hi' cp' : Nat} {w : World} {a : Ads} {c : Con} {ap : Option Addr} {ps : List Rg} (h : OwnSnB B lo hi w a cp c) (hp : OwnW l u w ap cp' ps) (b0 : lo ≤ l) (b1 : hi ≤ l) (b2 : u ≤ hi') (b3 : hi ≤ hi') (b4 : B < l) : OwnSnB B lo hi' w ⟨a.r, ap, a.f, a.k⟩ cp' ⟨c.r, ps, c.f, c.k⟩ := by
  obtain ⟨l1, u1, l2, u2, l3, u3, l4, u4, hb, hB, ⟨q1, q2, q3, q4, q5, q6⟩, h1, h2, h3, h4⟩ := h
  exact ⟨l1, u1, l, u, l3, u3, l4, u4, by omega, by omega, ⟨Or.inl (by omega), q2, q3, Or.inr (by omega), Or.inr (by omega), q6⟩, h1, hp, h3, h4⟩
theorem OwnSnB.setF {B lo hi cp l u hi' : Nat} {w : World} {a : Ads} {c : Con} {af : Option Addr} {fs : List Rg} (h : OwnSnB B lo hi w a cp c) (hf : OwnR l u w af fs) (b0 : lo ≤ l) (b1 : hi ≤ l) (b2 : u ≤ hi') (b3 : hi ≤ hi') (b4 : B < l) : OwnSnB B lo hi' w ⟨a.r, a.p, af, a.k⟩ cp ⟨c.r, c.p, fs, c.k⟩ := by
  obtain ⟨l1, u1, l2, u2, l3, u3, l4, u4, hb, hB, ⟨q1, q2, q3, q4, q5, q6⟩, h1, h2, h3, h4⟩ := h
  exact ⟨l1, u1, l2, u2, l, u, l4, u4, by omega, by omega, ⟨q1, Or.inl (by omega), q3, Or.inl (by omega), q5, Or.inr (by omega)⟩, h1, h2, hf, h4⟩
theorem OwnSnB.setK {B lo hi cp l u hi' : Nat} {w : World} {a : Ads} {c : Con} {ak : Option Addr} {ks : List Rg} (h : OwnSnB B lo hi w a cp c) (hk : OwnR l u w ak ks) (b0 : lo ≤ l) (b1 : hi ≤ l) (b2 : u ≤ hi') (b3 : hi ≤ hi') (b4 : B < l) : OwnSnB B lo hi' w ⟨a.r, a.p, a.f, ak⟩ cp ⟨c.r, c.p, c.f, ks⟩ := by
  obtain ⟨l1, u1, l2, u2, l3, u3, l4, u4, hb, hB, ⟨q1, q2, q3, q4, q5, q6⟩, h1, h2, h3, h4⟩ := h
  exact ⟨l1, u1, l2, u2, l3, u3, l, u, by omega, by omega, ⟨q1, q2, Or.inl (by omega), q4, Or.inl (by omega), Or.inl (by omega)⟩, h1, h2, h3, hk⟩
end
end Go.Proofs.Ytjhgcbchdnoleaa
