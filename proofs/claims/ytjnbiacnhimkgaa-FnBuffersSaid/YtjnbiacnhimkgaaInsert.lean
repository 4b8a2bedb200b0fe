/-
  Contract of InsertData. Conditions: the chunks can be read.
-/
import Derived.Test.YtjnbiacnhimkgaaJoin
import Derived.Test.YtjnbiacnhimkgaaCopyRecv
import Derived.Test.YtjnbiacnhimkgaaRgPlain
import Derived.Test.YtjnbiacnhimkgaaEndOf
import Derived.Test.YtjnbiacnhimkgaaSort
import Derived.Deep.DeepCutAuto
namespace Go.Proofs.Ytjnbiacnhimkgaa
open Go.ChangeShapes Go.WideShapes Go.ChangeAt Go.RowKit
set_option linter.unusedSimpArgs false
set_option linter.unusedVariables false
theorem putL_wb {off : Int} {data : ByteArray} {frm tt : Int} (h0 : 0 ≤ off) (h1 : off ≤ frm) (h2 : off + (data.size : Int) ≤ 4611686018427387903) : WB (putL off data frm tt) := by
  intro c hc
  rw [putL] at hc
  split at hc
  · rename_i h
    obtain rfl := List.mem_singleton.1 hc
    have hz := cutD_size (off := off) (data := data) (a := frm) (b := min tt (off + data.size)) h1 (by omega) (by omega)
    dsimp only
    omega
  · simp at hc
theorem putL_length (off : Int) (data : ByteArray) (frm tt : Int) : (putL off data frm tt).length ≤ 1 := by
  rw [putL]; split <;> simp
theorem WB.append {a b : List Ck} (h : WB a) (k : WB b) : WB (a ++ b) := fun c hc => (List.mem_append.1 hc).elim (h c) (k c)
theorem gapL_wb {off : Int} {data : ByteArray} (h0 : 0 ≤ off) (h2 : off + (data.size : Int) ≤ 4611686018427387903) : ∀ (cs : List Ck) (frm : Int), off ≤ frm → WB cs → WB (gapL off data frm cs)
  | [], frm, h1, _ => putL_wb h0 h1 h2
  | c :: cs, frm, h1, hw => by
    rw [gapL]
    refine (putL_wb h0 h1 h2).append fun d hd => ?_
    rcases List.mem_cons.1 hd with rfl | hd
    · exact hw d (by simp)
    · exact gapL_wb h0 h2 cs _ (by omega) hw.tail d hd
theorem gapL_length {off : Int} {data : ByteArray} : ∀ (cs : List Ck) (frm : Int), (gapL off data frm cs).length ≤ 2 * cs.length + 1
  | [], frm => by rw [gapL]; have := putL_length off data frm (off + data.size); simp; omega
  | c :: cs, frm => by
    have h1 := putL_length off data frm c.1
    have h2 := gapL_length (off := off) (data := data) cs (max frm (c.1 + c.2.size))
    rw [gapL]
    simp only [List.length_append, List.length_cons]
    omega
theorem gapL_pos {off : Int} {data : ByteArray} {frm : Int} (h : frm < off + data.size) : ∀ (cs : List Ck), 0 < (gapL off data frm cs).length
  | [] => by
    have e : min (off + (data.size : Int)) (off + data.size) = off + data.size := Int.min_self _
    rw [gapL, putL, if_pos (by omega)]; simp
  | c :: cs => by
    rw [gapL]
    simp only [List.length_append, List.length_cons]
    omega
theorem bufFrom_canon : ∀ {cs : List Ck} {l : Int}, bufFrom l cs = true → Canon l cs
  | [], _, _ => trivial
  | c :: cs, l, h => by
    simp only [bufFrom, Bool.and_eq_true, decide_eq_true_eq] at h
    exact ⟨h.2.1, h.1, bufFrom_canon h.2.2.2⟩
theorem isBuf_canon {nx : Int} {cs : List Ck} (h : isBuf nx cs = true) : Canon nx cs := by
  simp only [isBuf, Bool.and_eq_true] at h
  exact bufFrom_canon h.2
theorem isBuf_nx {nx : Int} {cs : List Ck} (h : isBuf nx cs = true) : 0 ≤ nx ∧ nx ≤ 4611686018427387903 := by
  simp only [isBuf, Bool.and_eq_true] at h
  exact inB_true h.1
theorem isBuf_wb {nx : Int} {cs : List Ck} (h : isBuf nx cs = true) : WB cs := by
  intro c hc
  obtain ⟨k, hk, rfl⟩ := List.mem_iff_getElem.1 hc
  have := isBuf_at h hk
  rw [show cs.getD k dk = cs[k] from by simp [List.getD, List.getElem?_eq_getElem hk]] at this
  omega
/-- The chunks of a slice, in a table. -/
def ckL (lo : Nat) (cs : List Ck) : Line :=
  ⟨fun v w => ∃ (ao : Option Addr) (cap l u : Nat), v = .slice ao cs.length cap ∧ OwnC l u w ao cs ∧ lo ≤ l ∧ u ≤ w.heap.size,
   fun _ _ _ hg ⟨ao, cap, l, u, h1, h2, h3, h4⟩ => ⟨ao, cap, l, u, h1, h2.chg (S := fun _ => False) (hg.chg _) (fun _ _ _ h => h), h3, Nat.le_trans h4 hg.size⟩⟩
/-- A buffer, in a table. -/
def bufL (lo : Nat) (nx : Int) (cs : List Ck) : Line :=
  ⟨fun v w => ∃ (ao : Option Addr) (cap l u : Nat), v = .agg #[.int .i64 nx, .slice ao cs.length cap] ∧ OwnC l u w ao cs ∧ lo ≤ l ∧ u ≤ w.heap.size,
   fun _ _ _ hg ⟨ao, cap, l, u, h1, h2, h3, h4⟩ => ⟨ao, cap, l, u, h1, h2.chg (S := fun _ => False) (hg.chg _) (fun _ _ _ h => h), h3, Nat.le_trans h4 hg.size⟩⟩
/-- Is something inserted? -/
def insOk (nx : Int) (cs : List Ck) (off : Int) (data : ByteArray) : Bool := isBuf nx cs && (decide (0 < data.size) && (decide (0 ≤ off) && (decide (off + (data.size : Int) ≤ 4611686018427387903) && decide (nx < off + (data.size : Int)))))
def insC (nx : Int) (cs : List Ck) (off : Int) (data : ByteArray) : List Ck := if insOk nx cs off data = true then insI nx cs off data else cs
set_option maxHeartbeats 4000000 in
set_option maxRecDepth 100000 in
theorem InsertData_yes (nx off : Int) (data : ByteArray) (ao : Option Addr) (n ca : Nat) (cs : List Ck) (w : World) (hx : ReadC w ao cs) (hn : cs.length = n) (hl : n ≤ 1048576) (hw : WfC cs) (hoff : -9223372036854775808 ≤ off ∧ off ≤ 9223372036854775807) (hds : (data.size : Int) ≤ 1048576) (hok : insOk nx cs off data = true) :
    Calls Try.prog 6 #[.agg #[.int .i64 nx, .slice ao n ca], .int .i64 off, .string data] w (NewBufV nx (insI nx cs off data) w) := by
  obtain ⟨hok1, hok2⟩ : isBuf nx cs = true ∧ (0 < data.size ∧ 0 ≤ off ∧ off + (data.size : Int) ≤ 4611686018427387903 ∧ nx < off + (data.size : Int)) := by
    simp only [insOk, Bool.and_eq_true, decide_eq_true_eq] at hok
    exact hok
  obtain ⟨hz0, h0, h1, h2⟩ := hok2
  have he : data.toList.isEmpty = false := by rw [empty_size]; exact decide_eq_false (by omega)
  have wr1 : IntKind.i64.wrap (4611686018427387903 - (data.size : Int)) = 4611686018427387903 - (data.size : Int) := IntWalk.i64_in _ (by omega)
  have wr2 : IntKind.i64.wrap (off + (data.size : Int)) = off + (data.size : Int) := IntWalk.i64_in _ (by omega)
  have d0 : decide (off < 0) = false := decide_eq_false (by omega)
  have d1 : decide (4611686018427387903 - (data.size : Int) < off) = false := decide_eq_false (by omega)
  have d2 : decide (off + (data.size : Int) ≤ nx) = false := decide_eq_false (by omega)
  have hn' := hide hn
  have hx' := hide hx
  have hw' := hide hw
  have hok' := hide hok
  obtain ⟨i0, hi0, hz0, hz1, hz2⟩ := info_parts infoChunk
  clear hn hx hw hok
  go_enter Try.func6, Try.ntmps6
  go_wp2_with fail
  refine (IsBuffer_impl nx ao n ca cs _ (hx'.out.ext (by repeat (first | with_reducible exact Ext.refl _ | with_reducible assumption | with_reducible refine Ext.alloc ?_ _ | with_reducible refine Ext.drew ?_ | with_reducible refine Ext.drewN ?_ _ | ((with_reducible refine Ext.set ?_ ?_ _); (focus (first | (simp; done) | (simp; omega)))) | with_reducible refine Ext.trans ?_ (by assumption)))) hn'.out (by omega) hw'.out).mono ?_
  rintro en w1 ⟨rfl, hb1⟩
  rw [hok1]
  have k1_0 := hb1.more (k := w.heap.size) (by first | assumption | (simp; done) | (simp; omega) | omega)
  obtain ⟨c1_0, f1_0⟩ := hb1.row (k := w.heap.size) (by first | assumption | (simp; done) | (simp; omega) | omega)
  have k1_1 := hb1.more (k := w.heap.size + 1) (by first | assumption | (simp; done) | (simp; omega) | omega)
  obtain ⟨c1_1, f1_1⟩ := hb1.row (k := w.heap.size + 1) (by first | assumption | (simp; done) | (simp; omega) | omega)
  have k1_2 := hb1.more (k := w.heap.size + 1 + 1) (by first | assumption | (simp; done) | (simp; omega) | omega)
  obtain ⟨c1_2, f1_2⟩ := hb1.row (k := w.heap.size + 1 + 1) (by first | assumption | (simp; done) | (simp; omega) | omega)
  have k1_3 := hb1.more (k := w.heap.size + 1 + 1 + 1) (by first | assumption | (simp; done) | (simp; omega) | omega)
  obtain ⟨c1_3, f1_3⟩ := hb1.row (k := w.heap.size + 1 + 1 + 1) (by first | assumption | (simp; done) | (simp; omega) | omega)
  have hs1 : w.heap.size + 4 ≤ w1.heap.size := by have := hb1.size; simp at this; omega
  go_upto_region 3 with fail
  go_cut [7, 8] (fun a b wx => ∃ B7 B8 : Nat, a = .pointer (some ⟨B7, 0, none⟩) ∧ b = .pointer (some ⟨B8, 0, none⟩) ∧ (w1.heap.size ≤ B7 ∧ w1.heap.size ≤ B8 ∧ B7 ≠ B8 ∧ B7 < wx.heap.size ∧ B8 < wx.heap.size) ∧ wx.cell? ⟨B7, 0, none⟩ = some (.int .i64 (max off nx)) ∧ wx.cell? ⟨B8, 0, none⟩ = some (.int .i64 (off + (data.size : Int))) ∧ wx.frozen? ⟨B7, 0, none⟩ = false ∧ Ext w1 wx)
  case first =>
    go_wp2_with fail
    go_region
    all_goals go_wp2_with fail
    all_goals
      go_meet
      refine ⟨_, _, rfl, rfl, ⟨?_, ?_, ?_, ?_, ?_⟩, ?_, ?_, ?_, (((Ext.refl w1).alloc _).alloc _).drew⟩
      · first | exact Nat.le_refl _ | omega
      · first | exact Nat.le_refl _ | omega
      · omega
      · first | (simp; done) | (simp; omega)
      · first | (simp; done) | (simp; omega)
      · first | (simp [go_sem]; done) | (simp [go_sem]; omega)
      · first | (simp [go_sem]; done) | (simp [go_sem]; omega)
      · first | (simp [go_sem]; done) | (simp [go_sem]; omega)
  case rest =>
    obtain ⟨B7, B8, rfl, rfl, ⟨g1, g2, g3, g4, g5⟩, c7, c8, f7, hwx⟩ := hcut
    have xw1 : Ext w w1 := (by repeat (first | with_reducible exact Ext.refl _ | with_reducible assumption | with_reducible refine Ext.alloc ?_ _ | with_reducible refine Ext.drew ?_ | with_reducible refine Ext.drewN ?_ _ | ((with_reducible refine Ext.set ?_ ?_ _); (focus (first | (simp; done) | (simp; omega)))) | with_reducible refine Ext.trans ?_ (by assumption)))
    have xwc : Ext w wc := xw1.trans hwx
    obtain ⟨x0, y0⟩ := hwx.row (k := w.heap.size) k1_0
    have kc_0 := hwx.more k1_0
    obtain ⟨x1, y1⟩ := hwx.row (k := w.heap.size + 1) k1_1
    have kc_1 := hwx.more k1_1
    obtain ⟨x2, y2⟩ := hwx.row (k := w.heap.size + 1 + 1) k1_2
    have kc_2 := hwx.more k1_2
    obtain ⟨x3, y3⟩ := hwx.row (k := w.heap.size + 1 + 1 + 1) k1_3
    have kc_3 := hwx.more k1_3
    have hsc : w1.heap.size ≤ wc.heap.size := hwx.size
    have q00 : wc.cell? ⟨w.heap.size, 0, none⟩ = some (.int .i64 nx) := (by rw [x0, c1_0]; simp [go_sem])
    have q01 : wc.cell? ⟨w.heap.size, 1, none⟩ = some (.slice ao n ca) := (by rw [x0, c1_0]; simp [go_sem])
    have q10 : wc.cell? ⟨w.heap.size + 1, 0, none⟩ = some (.int .i64 off) := (by rw [x1, c1_1]; simp [go_sem])
    have q20 : wc.cell? ⟨w.heap.size + 1 + 1, 0, none⟩ = some (.string data) := (by rw [x2, c1_2]; simp [go_sem])
    have q30 : wc.cell? ⟨w.heap.size + 1 + 1 + 1, 0, none⟩ = some (.int .i64 0) := (by rw [x3, c1_3]; simp [go_sem])
    have q31 : wc.cell? ⟨w.heap.size + 1 + 1 + 1, 1, none⟩ = some (.slice none 0 0) := (by rw [x3, c1_3]; simp [go_sem])
    have q3F : ∀ o, wc.frozen? ⟨w.heap.size + 1 + 1 + 1, o, none⟩ = false := fun o => (by rw [y3, f1_3]; simp [go_sem])
    clear x0 y0 x1 y1 x2 y2 x3 y3 c1_0 f1_0 c1_1 f1_1 c1_2 f1_2 c1_3 f1_3
    go_wp2_with fail
    go_loopw [55] (fun i wr => ∃ (k : Nat) (ls : List Ck) (fr : Int), i = .int .i64 k ∧ k ≤ n ∧ ListAt (wc.heap.size + 1) wc.heap.size (fun k => wc.heap.size ≤ k ∧ k < wr.heap.size) ls wr ∧ wr.cell? ⟨B7, 0, none⟩ = some (.int .i64 fr) ∧ wr.frozen? ⟨B7, 0, none⟩ = false ∧ ls ++ gapL off data fr (cs.drop k) = gapL off data (max off nx) cs ∧ (off ≤ fr ∧ fr ≤ 4611686018427387903) ∧ ls.length ≤ 2 * k ∧ wc.heap.size + 2 ≤ wr.heap.size ∧ Chg (fun j => j = B7 ∨ wc.heap.size ≤ j) wc wr) (fun i _ => n - (intOf i).toNat)
    case atStart =>
      refine ⟨0, [], max off nx, rfl, by omega, ⟨some ⟨wc.heap.size, 0, none⟩, 0, by simp [go_sem], (World.ownsRow_made wc #[] 0 (Nat.le_refl _) (by decide) rfl).alloc _, fun k hk => ?_, by simp [go_sem]⟩, ?_, ?_, rfl, ⟨by omega, by omega⟩, by simp, by simp, ((Chg.refl _ _).alloc _).alloc _⟩
      · have h5 : wc.heap.size = k := Option.some.inj hk
        simp
        omega
      · exact ((((Ext.refl wc).alloc _).alloc _).row g4).1 0 |>.trans c7
      · exact ((((Ext.refl wc).alloc _).alloc _).row g4).2 0 |>.trans f7
    case round =>
      obtain ⟨k, ls, fr, rfl, hk, hL, b7, bf7, hgap, ⟨hf1, hf2⟩, hlen, hsr, hg⟩ := hrel
      have xg : Chg (fun j => j = B7 ∨ wc.heap.size ≤ j) w wr := (Ext.chg xwc _).trans hg
      obtain ⟨r8, _⟩ := hg.row (k := B8) g5 (by omega)
      have b8 := (r8 0).trans c8
      obtain ⟨r0, _⟩ := hg.row (k := w.heap.size) (by omega) (by omega)
      have b00 := (r0 0).trans q00
      obtain ⟨r1, _⟩ := hg.row (k := w.heap.size + 1) (by omega) (by omega)
      have b10 := (r1 0).trans q10
      obtain ⟨r2, _⟩ := hg.row (k := w.heap.size + 1 + 1) (by omega) (by omega)
      have b20 := (r2 0).trans q20
      clear r8 r0 r1 r2
      by_cases hlt : k < n
      · have hkx : k < cs.length := by rw [hn'.out]; exact hlt
        have hbk := isBuf_at hok1 hkx
        have hcons := hide (drop_cons cs hkx)
        rcases hx'.out with hnil | ⟨bx, bo, rfl, hx⟩
        · rw [hnil] at hkx; simp at hkx
        obtain ⟨cx, cx2⟩ := hx k hkx
        have la : bx < w.heap.size := World.block_lt_of_cell? w _ cx
        have hr := (xg.row la (by omega)).1
        have dx := (hr _).trans cx
        have dx2 := (hr _).trans cx2
        have i1 : (0 : Int) ≤ (k : Int) := by omega
        have i2 : (k : Int) < (n : Int) := by omega
        clear hx cx cx2 hr
        have hgap' := hide hgap
        clear hgap
        rw [hcons.out] at hgap'
        generalize cs.getD k dk = c at *
        obtain ⟨o, s⟩ := c
        dsimp only at *
        obtain ⟨z1, z2, z3, z4⟩ := hbk
        go_wp2_with fail
        have hsE1 : wr.heap.size + 1 ≤ (wr.alloc (.cells #[.int .i64 o, .string s] 53)).heap.size := by simp
        have hxE : Ext wr (wr.alloc (.cells #[.int .i64 o, .string s] 53)) := (Ext.refl wr).alloc _
        refine (put_any o fr off data B7 B8 (wc.heap.size + 1) (w.heap.size + 1 + 1) (w.heap.size + 1) wc.heap.size (fun k => wc.heap.size ≤ k ∧ k < wr.heap.size) ls _ (((hxE.row (by omega)).1 0).trans b7) (((hxE.row (by omega)).1 0).trans b8) (((hxE.row (by omega)).1 0).trans b20) (((hxE.row (by omega)).1 0).trans b10) (hL.ext hxE) (by simp; omega) g4 g5 (by simp; omega) (by omega) (by omega) h0 hf1 h1 (by omega)).mono ?_
        rintro en w2 ⟨rfl, hL2, hg2⟩
        have hs2 := hg2.size
        simp at hs2
        obtain ⟨rE, fE⟩ := hg2.row (k := wr.heap.size) (by simp) (by (try dsimp only); omega)
        have e0 : w2.cell? ⟨wr.heap.size, 0, none⟩ = some (.int .i64 o) := (by rw [rE]; simp [go_sem])
        have e1 : w2.cell? ⟨wr.heap.size, 1, none⟩ = some (.string s) := (by rw [rE]; simp [go_sem])
        have hgW : Chg (fun j => j = B7 ∨ wc.heap.size ≤ j) wc w2 := (hg.trans (hxE.chg _)).trans (hg2.mono (fun k _ h => by (try dsimp only at h ⊢); omega))
        obtain ⟨r7, rf7⟩ := hg2.row (k := B7) (by simp; omega) (by (try dsimp only); omega)
        have b7' : w2.cell? ⟨B7, 0, none⟩ = some (.int .i64 fr) := (r7 0).trans (((hxE.row (k := B7) (by omega)).1 0).trans b7)
        have bf7' : w2.frozen? ⟨B7, 0, none⟩ = false := (rf7 0).trans (((hxE.row (k := B7) (by omega)).2 0).trans bf7)
        clear rE fE r7 rf7 b7 bf7 b8 b00 b10 b20 hL
        have hputl := putL_length off data fr o
        have hl2 : (ls ++ putL off data fr o).length ≤ 2 * k + 1 := by rw [List.length_append]; omega
        have hgap2 : Hid ((ls ++ putL off data fr o ++ [(o, s)]) ++ gapL off data (max fr (o + (s.size : Int))) (cs.drop (k + 1)) = gapL off data (max off nx) cs) := hide (by
          rw [← hgap'.out, gapL]; simp)
        clear hgap' hputl
        generalize ls ++ putL off data fr o = ls2 at *
        obtain ⟨ao3, ca3, c9, hown3, hap3, f9⟩ := hL2
        go_wp2_with (at_builtin; refine wpList_append_lies _ rfl _ _ _ (by rfl) wc.heap.size 53 i0 _ 2 24 Try.underlying24 hi0 hz0 hz1 hz2 rfl (by omega) (.slice ao3 ls2.length ca3) ls2.length _ (by rfl) (hown3.alloc (.cells #[.int .i64 o, .string s] 53)) ⟨w2.heap.size, 0, none⟩ 1 1 [.int .i64 o, .string s] (by rfl) (by rfl) (World.news_of_block (cs := #[.int .i64 o, .string s]) (t := 53) (fr := (0, 0)) (heap_alloc_new w2 _)) (by simp [Value.oneCell']) (by omega) (by simp [maxLen] <;> omega) (by omega) (by simp; omega) (w2.heap.size + 1) (by simp) ?_)
        intro gg cap w3 hown4 hgrow hat hlt3
        obtain ⟨g9, y9, hLA, hCA⟩ := list_appended c9 f9 hap3 ((Ext.refl w2).alloc _) (by omega) hown4 hgrow hat
        go_wp2_with fail
        obtain ⟨rE, fE⟩ := hCA.row (k := wr.heap.size) (by omega) (by (try dsimp only); omega)
        obtain ⟨r7, rf7⟩ := hCA.row (k := B7) (by omega) (by (try dsimp only); omega)
        have hsA := hCA.size
        have d0 := (rE 0).trans e0
        have d1 := (rE 1).trans e1
        have d7 := (r7 0).trans b7'
        have df7 := (rf7 0).trans bf7'
        have hgA : Chg (fun j => j = B7 ∨ wc.heap.size ≤ j) wc (w3.setCell ⟨wc.heap.size + 1, 0, none⟩ (.slice (some ⟨gg, 0, none⟩) (ls2.length + 1) cap)) := hgW.trans (hCA.mono (fun k _ h => by (try dsimp only at h ⊢); omega))
        clear rE fE r7 rf7 e0 e1 b7' bf7' c9 f9 hown3 hap3 hown4 hgrow hat g9 y9 hgW hg2 hCA
        generalize (w3.setCell ⟨wc.heap.size + 1, 0, none⟩ (.slice (some ⟨gg, 0, none⟩) (ls2.length + 1) cap)) = w4 at *
        have xe0 : wr.heap.size < w4.heap.size := by omega
        have xe7 : B7 < w4.heap.size := by omega
        obtain ⟨m, hm⟩ : ∃ m : Int, m = max fr (o + (s.size : Int)) := ⟨_, rfl⟩
        have hm' := hide hm
        clear hm
        have hwre : IntKind.i64.wrap (o + (s.size : Int)) = o + (s.size : Int) := IntWalk.i64_in _ (by omega)
        refine wp_region_tail 4 [Line.is (.int .i64 fr), Line.is (.agg #[.int .i64 o, .string s]), Line.is (.int .i64 (o + (s.size : Int))), Line.is (.int .i64 m)] [67, 68, 69, 70] (by kernel_rfl) (by kernel_rfl) (by kernel_rfl) (by kernel_rfl) (by kernel_rfl) (by kernel_rfl) (by kernel_rfl) ?_ ?_
        · refine Each.cons ?_ (Each.cons ?_ (Each.cons ?_ (Each.cons ?_ (Each.nil))))
          · intro g ws hws hl
            simp only [fillAt, List.foldl_cons, List.foldl_nil, Act.put, List.setIfInBounds_toArray, List.set_cons_zero, List.set_cons_succ]
            obtain ⟨q0, p0⟩ := hws.row (k := B7) (by first | assumption | (simp; done) | (simp; omega) | omega)
            obtain ⟨q1, p1⟩ := hws.row (k := wr.heap.size) (by first | assumption | (simp; done) | (simp; omega) | omega)
            refine Stays.plain ?_ (by rfl) ?_ ?_
            rotate_left
            · go_simp
              try with_reducible rfl
            · exact rfl
          · intro g ws hws hl
            simp only [fillAt, List.foldl_cons, List.foldl_nil, Act.put, List.setIfInBounds_toArray, List.set_cons_zero, List.set_cons_succ]
            obtain ⟨q0, p0⟩ := hws.row (k := B7) (by first | assumption | (simp; done) | (simp; omega) | omega)
            obtain ⟨q1, p1⟩ := hws.row (k := wr.heap.size) (by first | assumption | (simp; done) | (simp; omega) | omega)
            refine Stays.plain ?_ (by rfl) ?_ ?_
            rotate_left
            · go_simp
              try with_reducible rfl
            · exact rfl
          · intro g ws hws hl
            have ln1 : g 68 = _ := (show (Line.is (.agg #[.int .i64 o, .string s])).p (g 68) ws from linesOf_get 1 hl (by kernel_rfl))
            simp only [fillAt, List.foldl_cons, List.foldl_nil, Act.put, List.setIfInBounds_toArray, List.set_cons_zero, List.set_cons_succ, ln1]
            refine Stays.call 33 ?_ (by rfl) ?_ ?_
            rotate_left
            · go_simp
              try with_reducible rfl
            · refine (end_any (o, s) _ (by show -9223372036854775808 ≤ o; omega) (by show o + (s.size : Int) ≤ 9223372036854775807; omega)).mono ?_
              rintro en w5 ⟨rfl, hb5⟩
              exact ⟨_, rfl, hb5, rfl⟩
          · intro g ws hws hl
            have ln0 : g 67 = _ := (show (Line.is (.int .i64 fr)).p (g 67) ws from linesOf_get 0 hl (by kernel_rfl))
            have ln2 : g 69 = _ := (show (Line.is (.int .i64 (o + (s.size : Int)))).p (g 69) ws from linesOf_get 2 hl (by kernel_rfl))
            simp only [fillAt, List.foldl_cons, List.foldl_nil, Act.put, List.setIfInBounds_toArray, List.set_cons_zero, List.set_cons_succ, ln0, ln2]
            refine Stays.plain (.int .i64 m) (by rfl) ?_ rfl
            rcases Int.le_total fr (o + (s.size : Int)) with hle | hle
            · have hm2 : m = o + (s.size : Int) := by rw [hm'.out]; omega
              rw [hm2]
              go_simp
              try omega
            · have hm2 : m = fr := by rw [hm'.out]; omega
              rw [hm2]
              go_simp
              try omega
        · intro g w5 hw5 hl
          have ln0 : g 67 = _ := (show (Line.is (.int .i64 fr)).p (g 67) w5 from (allLines_get 67 0 0 hl rfl))
          have ln1 : g 68 = _ := (show (Line.is (.agg #[.int .i64 o, .string s])).p (g 68) w5 from (allLines_get 68 1 0 hl rfl))
          have ln2 : g 69 = _ := (show (Line.is (.int .i64 (o + (s.size : Int)))).p (g 69) w5 from (allLines_get 69 2 0 hl rfl))
          have ln3 : g 70 = _ := (show (Line.is (.int .i64 m)).p (g 70) w5 from (allLines_get 70 3 0 hl rfl))
          clear hl
          simp only [fillAt, List.foldl_cons, List.foldl_nil, Act.put, List.setIfInBounds_toArray, List.set_cons_zero, List.set_cons_succ, ln0, ln1, ln2, ln3]
          simp only [List.drop_succ_cons, List.drop_zero]
          have xw5 : Ext w4 w5 := ((Ext.refl w4).drew).trans hw5
          obtain ⟨r7, rf7⟩ := xw5.row (k := B7) xe7
          have t7 := (r7 0).trans d7
          have tf7 := (rf7 0).trans df7
          have hs5 := hw5.size
          simp at hs5
          clear r7 rf7
          go_wp2
          have hset : Chg (fun k => k = B7) w5 (w5.setCell ⟨B7, 0, none⟩ (.int .i64 m)) := Chg.set (S := fun k => k = B7) (p := ⟨B7, 0, none⟩) (Or.inl rfl) (Chg.refl _ _) _
          have hLB := ((hLA.ext xw5).chg hset (by (try dsimp only); omega) (fun k hk _ => by (try dsimp only); omega)).mono (P' := fun k => wc.heap.size ≤ k ∧ k < (w5.setCell ⟨B7, 0, none⟩ (.int .i64 m)).heap.size) (fun k hb h _ => ⟨hb, h⟩)
          have hs6 := hset.size
          go_roundw
          case rel =>
            refine ⟨k + 1, ls2 ++ [(o, s)], m, by go_num, by omega, hLB, ?_, by rw [World.frozen?_setCell]; exact tf7, by rw [hm'.out]; exact hgap2.out, by have := hm'.out; omega, by rw [List.length_append, List.length_singleton]; omega, by omega, (hgA.trans (xw5.chg _)).trans (hset.mono (fun k _ h => Or.inl h))⟩
            rw [World.cell?_setCell_same' _ _ _ (by rw [t7]; rfl)]
          case measure => simp [intOf]; omega
      · obtain rfl : k = n := by omega
        have hdr : cs.drop k = [] := List.drop_of_length_le (Nat.le_of_eq hn'.out)
        rw [hdr, gapL] at hgap
        have hgap' := hide hgap
        clear hgap hdr
        have b9k : wc.heap.size + 1 < wr.heap.size := by omega
        go_wp2_with fail
        refine (put_any (off + (data.size : Int)) fr off data B7 B8 (wc.heap.size + 1) (w.heap.size + 1 + 1) (w.heap.size + 1) wc.heap.size (fun k => wc.heap.size ≤ k ∧ k < wr.heap.size) ls _ b7 b8 b20 b10 hL (by omega) g4 g5 b9k (by omega) (by omega) h0 hf1 h1 (by omega)).mono ?_
        rintro en w2 ⟨rfl, hL2, hg2⟩
        rw [hgap'.out] at hL2
        have hGs : Srt nx (gapL off data (max off nx) cs) := gapL_srt cs _ nx (isBuf_canon hok1).srt (by omega) (by omega) (Or.inr trivial)
        have hGw : WB (gapL off data (max off nx) cs) := gapL_wb h0 h1 cs _ (by omega) (isBuf_wb hok1)
        have hGl := gapL_length (off := off) (data := data) cs (max off nx)
        rw [hn'.out] at hGl
        have hGp := gapL_pos (off := off) (data := data) (frm := max off nx) (by have := isBuf_nx hok1; omega) cs
        have hJ : Hid (insI nx cs off data = joined (gapL off data (max off nx) cs)) := hide rfl
        clear hgap'
        generalize gapL off data (max off nx) cs = G at *
        obtain ⟨ao3, ca3, c9, hown3, hap3, f9⟩ := hL2
        obtain ⟨gL, cp, hsl, hgb, hgw⟩ := hown3.form hGp
        obtain ⟨rfl, rfl⟩ : ao3 = some ⟨gL, 0, none⟩ ∧ ca3 = cp := by simpa using hsl
        have hgW : Chg (fun j => j = B7 ∨ wc.heap.size ≤ j) wc w2 := hg.trans (hg2.mono (fun k _ h => by (try dsimp only at h ⊢); omega))
        have hs2 := hgW.size
        obtain ⟨r0, _⟩ := hgW.row (k := w.heap.size) (by omega) (by omega)
        obtain ⟨r3, rf3⟩ := hgW.row (k := w.heap.size + 1 + 1 + 1) (by omega) (by omega)
        have d00 := (r0 0).trans q00
        have d30 := (r3 0).trans q30
        have d31 := (r3 1).trans q31
        have d3F := fun o => (rf3 o).trans (q3F o)
        have hlim : w.heap.size + 1 + 1 + 1 < wc.heap.size := kc_3
        clear hsl r0 r3 rf3 b7 b8 b00 b10 b20 bf7 hL hg hg2 hap3 f9
        go_wp2_with fail
        refine (sort_any wc.heap.size gL ca3 G nx _ hown3 hGw hGs (by omega)).mono ?_
        rintro en w6 ⟨rfl, hx6⟩
        obtain ⟨r0, _⟩ := hx6.row (k := w.heap.size) (by omega)
        obtain ⟨r3, rf3⟩ := hx6.row (k := w.heap.size + 1 + 1 + 1) (by omega)
        obtain ⟨r9, _⟩ := hx6.row (k := wc.heap.size + 1) (World.block_lt_of_cell? w2 _ c9)
        have b9k2 : wc.heap.size + 1 < w6.heap.size := Nat.lt_of_lt_of_le (World.block_lt_of_cell? w2 _ c9) hx6.size
        have t00 := (r0 0).trans d00
        have t30 := (r3 0).trans d30
        have t31 := (r3 1).trans d31
        have t3F := fun o => (rf3 o).trans (d3F o)
        have t9 := (r9 0).trans c9
        have hs6 := hx6.size
        have hW6 : Chg (fun j => w.heap.size ≤ j) w w6 := ((Ext.chg xwc _).trans (hgW.mono (fun k _ h => by (try dsimp only at h ⊢); omega))).trans (hx6.chg _)
        obtain ⟨aoG, capG, eG, _, hrG⟩ := own_chunks (own_ext hown3 hx6)
        obtain ⟨rfl, rfl⟩ : some ⟨gL, 0, none⟩ = aoG ∧ ca3 = capG := by simpa using eG
        have hrd := hide hrG.read
        have hk0 : w.heap.size < w6.heap.size := by omega
        have hk3 : w.heap.size + 1 + 1 + 1 < w6.heap.size := by omega
        clear r0 r3 rf3 r9 d00 d30 d31 d3F c9 hrG eG
        go_wp2_with fail
        refine wp_region_tail 5 [Line.is (.pointer (some ⟨w.heap.size, 0, none⟩)), Line.is (.int .i64 nx), Line.is (.slice (some ⟨gL, 0, none⟩) G.length ca3), ckL w6.heap.size (joined G), bufL w6.heap.size nx (joined G)] [77, 78, 79, 80, 81] (by kernel_rfl) (by kernel_rfl) (by kernel_rfl) (by kernel_rfl) (by kernel_rfl) (by kernel_rfl) (by kernel_rfl) ?_ ?_
        · refine Each.cons ?_ (Each.cons ?_ (Each.cons ?_ (Each.cons ?_ (Each.cons ?_ (Each.nil)))))
          · intro g ws hws hl
            simp only [fillAt, List.foldl_cons, List.foldl_nil, Act.put, List.setIfInBounds_toArray, List.set_cons_zero, List.set_cons_succ]
            refine Stays.plain ?_ (by rfl) ?_ ?_
            rotate_left
            · go_simp
              try with_reducible rfl
            · exact rfl
          · intro g ws hws hl
            have ln0 : g 77 = _ := (show (Line.is (.pointer (some ⟨w.heap.size, 0, none⟩))).p (g 77) ws from linesOf_get 0 hl (by kernel_rfl))
            simp only [fillAt, List.foldl_cons, List.foldl_nil, Act.put, List.setIfInBounds_toArray, List.set_cons_zero, List.set_cons_succ, ln0]
            obtain ⟨q0, p0⟩ := hws.row (k := w.heap.size) (by first | assumption | (simp; done) | (simp; omega) | omega)
            obtain ⟨q1, p1⟩ := hws.row (k := wc.heap.size + 1) (by first | assumption | (simp; done) | (simp; omega) | omega)
            refine Stays.plain ?_ (by rfl) ?_ ?_
            rotate_left
            · go_simp
              try with_reducible rfl
            · exact rfl
          · intro g ws hws hl
            simp only [fillAt, List.foldl_cons, List.foldl_nil, Act.put, List.setIfInBounds_toArray, List.set_cons_zero, List.set_cons_succ]
            obtain ⟨q0, p0⟩ := hws.row (k := w.heap.size) (by first | assumption | (simp; done) | (simp; omega) | omega)
            obtain ⟨q1, p1⟩ := hws.row (k := wc.heap.size + 1) (by first | assumption | (simp; done) | (simp; omega) | omega)
            refine Stays.plain ?_ (by rfl) ?_ ?_
            rotate_left
            · go_simp
              try with_reducible rfl
            · exact rfl
          · intro g ws hws hl
            have ln2 : g 79 = _ := (show (Line.is (.slice (some ⟨gL, 0, none⟩) G.length ca3)).p (g 79) ws from linesOf_get 2 hl (by kernel_rfl))
            simp only [fillAt, List.foldl_cons, List.foldl_nil, Act.put, List.setIfInBounds_toArray, List.set_cons_zero, List.set_cons_succ, ln2]
            refine Stays.call 36 ?_ (by rfl) ?_ ?_
            rotate_left
            · go_simp
              try with_reducible rfl
            · refine (joined_any _ G.length ca3 G _ (hrd.out.ext ((Ext.refl w6).drew.trans hws)) rfl (by omega) hGw).mono ?_
              rintro en w5 ⟨ao5, cap5, rfl, ho5, hb5⟩
              exact ⟨_, rfl, hb5, ⟨ao5, cap5, _, _, rfl, ho5, by have := hws.size; simpa using this, Nat.le_refl _⟩⟩
          · intro g ws hws hl
            have ln1 : g 78 = _ := (show (Line.is (.int .i64 nx)).p (g 78) ws from linesOf_get 1 hl (by kernel_rfl))
            obtain ⟨aoJ, capJ, lJ, uJ, ln3, hO, hlJ, huJ⟩ := (show (ckL w6.heap.size (joined G)).p (g 80) ws from linesOf_get 3 hl (by kernel_rfl))
            simp only [fillAt, List.foldl_cons, List.foldl_nil, Act.put, List.setIfInBounds_toArray, List.set_cons_zero, List.set_cons_succ, ln1, ln3]
            refine Stays.plain (.agg #[.int .i64 nx, .slice aoJ (joined G).length capJ]) (by rfl) ?_ ⟨aoJ, capJ, lJ, uJ, rfl, hO, hlJ, huJ⟩
            go_simp
        · intro g w7 hw7 hl
          have ln0 : g 77 = _ := (show (Line.is (.pointer (some ⟨w.heap.size, 0, none⟩))).p (g 77) w7 from (allLines_get 77 0 0 hl rfl))
          have ln1 : g 78 = _ := (show (Line.is (.int .i64 nx)).p (g 78) w7 from (allLines_get 78 1 0 hl rfl))
          have ln2 : g 79 = _ := (show (Line.is (.slice (some ⟨gL, 0, none⟩) G.length ca3)).p (g 79) w7 from (allLines_get 79 2 0 hl rfl))
          obtain ⟨aoJ, capJ, lJ, uJ, ln3, hO, hlJ, huJ⟩ := (show (ckL w6.heap.size (joined G)).p (g 80) w7 from (allLines_get 80 3 0 hl rfl))
          obtain ⟨aoK, capK, lK, uK, ln4, hO2, hlK, huK⟩ := (show (bufL w6.heap.size nx (joined G)).p (g 81) w7 from (allLines_get 81 4 0 hl rfl))
          clear hl
          simp only [fillAt, List.foldl_cons, List.foldl_nil, Act.put, List.setIfInBounds_toArray, List.set_cons_zero, List.set_cons_succ, ln0, ln1, ln2, ln3, ln4]
          simp only [List.drop_succ_cons, List.drop_zero]
          have xw7 : Ext w6 w7 := (Ext.refl w6).drew.trans hw7
          obtain ⟨r3, rf3⟩ := xw7.row (k := w.heap.size + 1 + 1 + 1) hk3
          have u30 := (r3 0).trans t30
          have u31 := (r3 1).trans t31
          have u3F := fun o => (rf3 o).trans (t3F o)
          have hk7 : w.heap.size + 1 + 1 + 1 < w7.heap.size := Nat.lt_of_lt_of_le hk3 xw7.size
          clear r3 rf3
          go_wp2
          refine bodyPost_ret (v := .agg #[.int .i64 nx, .slice aoK (joined G).length capK]) (by simp [results, Try.results6, go_sem, *]) rfl ?_
          rw [hJ.out]
          refine ⟨aoK, capK, rfl, ?_, ?_⟩
          · refine OwnC.mono (OwnC.chg (S := fun k => k < w6.heap.size) hO2 (by repeat (first | with_reducible exact Chg.refl _ _ | with_reducible assumption | with_reducible refine Chg.alloc ?_ _ | with_reducible refine Chg.drew ?_ | ((with_reducible refine Chg.set ?_ ?_ _); (focus (first | (left; simp; done) | (left; simp; omega) | (left; omega)))))) (fun b h1 h2 h3 => by (try dsimp only at h3); omega)) (by omega) (by simp; omega)
          · refine Chg.ext (S := fun j => w.heap.size ≤ j) (Chg.trans (hW6.trans (xw7.chg _)) (by repeat (first | with_reducible exact Chg.refl _ _ | with_reducible assumption | with_reducible refine Chg.alloc ?_ _ | with_reducible refine Chg.drew ?_ | ((with_reducible refine Chg.set ?_ ?_ _); (focus (first | (left; simp; done) | (left; simp; omega) | (left; omega))))))) (fun k hk h => by (try dsimp only at h); omega)
set_option maxHeartbeats 4000000 in
set_option maxRecDepth 100000 in
theorem InsertData_impl (nx off : Int) (data : ByteArray) (ao : Option Addr) (n ca : Nat) (cs : List Ck) (w : World) (hx : ReadC w ao cs) (hn : cs.length = n) (hl : n ≤ 1048576) (hw : WfC cs) (hoff : -9223372036854775808 ≤ off ∧ off ≤ 9223372036854775807) (hds : (data.size : Int) ≤ 1048576) :
    Calls Try.prog 6 #[.agg #[.int .i64 nx, .slice ao n ca], .int .i64 off, .string data] w (NewBufV nx (insC nx cs off data) w) := by
  rcases Bool.eq_false_or_eq_true (isBuf nx cs) with hi | hi
  · -- yes
    rcases Bool.eq_false_or_eq_true (data.toList.isEmpty) with he | he
    · -- yes
      have hz0 : data.size = 0 := by rw [empty_size] at he; exact of_decide_eq_true he
      have hC : insC nx cs off data = cs := by rw [insC, if_neg (by simp [insOk, hz0])]
      rw [hC]
      clear hC
      clear hz0
      
      have hn' := hide hn
      have hx' := hide hx
      have hw' := hide hw
      clear hn hx hw
      go_enter Try.func6, Try.ntmps6
      go_wp2_with fail
      refine (IsBuffer_impl nx ao n ca cs _ (hx'.out.ext (by repeat (first | with_reducible exact Ext.refl _ | with_reducible assumption | with_reducible refine Ext.alloc ?_ _ | with_reducible refine Ext.drew ?_ | with_reducible refine Ext.drewN ?_ _ | ((with_reducible refine Ext.set ?_ ?_ _); (focus (first | (simp; done) | (simp; omega)))) | with_reducible refine Ext.trans ?_ (by assumption)))) hn'.out (by omega) hw'.out).mono ?_
      rintro en w1 ⟨rfl, hb1⟩
      rw [hi]
      have k1_0 := hb1.more (k := w.heap.size) (by first | assumption | (simp; done) | (simp; omega) | omega)
      obtain ⟨c1_0, f1_0⟩ := hb1.row (k := w.heap.size) (by first | assumption | (simp; done) | (simp; omega) | omega)
      have k1_1 := hb1.more (k := w.heap.size + 1) (by first | assumption | (simp; done) | (simp; omega) | omega)
      obtain ⟨c1_1, f1_1⟩ := hb1.row (k := w.heap.size + 1) (by first | assumption | (simp; done) | (simp; omega) | omega)
      have k1_2 := hb1.more (k := w.heap.size + 1 + 1) (by first | assumption | (simp; done) | (simp; omega) | omega)
      obtain ⟨c1_2, f1_2⟩ := hb1.row (k := w.heap.size + 1 + 1) (by first | assumption | (simp; done) | (simp; omega) | omega)
      have k1_3 := hb1.more (k := w.heap.size + 1 + 1 + 1) (by first | assumption | (simp; done) | (simp; omega) | omega)
      obtain ⟨c1_3, f1_3⟩ := hb1.row (k := w.heap.size + 1 + 1 + 1) (by first | assumption | (simp; done) | (simp; omega) | omega)
      go_wp2_with fail
      refine (copyBuffer_any nx ao n ca cs _ (hx'.out.ext (by repeat (first | with_reducible exact Ext.refl _ | with_reducible assumption | with_reducible refine Ext.alloc ?_ _ | with_reducible refine Ext.drew ?_ | with_reducible refine Ext.drewN ?_ _ | ((with_reducible refine Ext.set ?_ ?_ _); (focus (first | (simp; done) | (simp; omega)))) | with_reducible refine Ext.trans ?_ (by assumption)))) hn'.out hl).mono ?_
      rintro en w2 ⟨ao2, cap2, rfl, ho2, hb2⟩
      have k2_0 := hb2.more (k := w.heap.size) (by first | assumption | (simp; done) | (simp; omega) | omega)
      obtain ⟨c2_0, f2_0⟩ := hb2.row (k := w.heap.size) (by first | assumption | (simp; done) | (simp; omega) | omega)
      have k2_1 := hb2.more (k := w.heap.size + 1) (by first | assumption | (simp; done) | (simp; omega) | omega)
      obtain ⟨c2_1, f2_1⟩ := hb2.row (k := w.heap.size + 1) (by first | assumption | (simp; done) | (simp; omega) | omega)
      have k2_2 := hb2.more (k := w.heap.size + 1 + 1) (by first | assumption | (simp; done) | (simp; omega) | omega)
      obtain ⟨c2_2, f2_2⟩ := hb2.row (k := w.heap.size + 1 + 1) (by first | assumption | (simp; done) | (simp; omega) | omega)
      have k2_3 := hb2.more (k := w.heap.size + 1 + 1 + 1) (by first | assumption | (simp; done) | (simp; omega) | omega)
      obtain ⟨c2_3, f2_3⟩ := hb2.row (k := w.heap.size + 1 + 1 + 1) (by first | assumption | (simp; done) | (simp; omega) | omega)
      go_wp2
      refine bodyPost_ret (v := .agg #[.int .i64 nx, .slice ao2 cs.length cap2]) (by simp [results, Try.results6, go_sem, *]) rfl ⟨ao2, cap2, rfl, ?_, ?_⟩
      · refine OwnC.mono (OwnC.chg (S := fun k => k < w1.heap.size) ho2 (by repeat (first | with_reducible exact Chg.refl _ _ | with_reducible assumption | with_reducible refine Chg.alloc ?_ _ | with_reducible refine Chg.drew ?_ | ((with_reducible refine Chg.set ?_ ?_ _); (focus (first | (left; simp; done) | (left; simp; omega) | (left; omega)))))) (fun b h1 h2 h3 => by omega)) (by omega) (by simp)
      · exact (by repeat (first | with_reducible exact Ext.refl _ | with_reducible assumption | with_reducible refine Ext.alloc ?_ _ | with_reducible refine Ext.drew ?_ | with_reducible refine Ext.drewN ?_ _ | ((with_reducible refine Ext.set ?_ ?_ _); (focus (first | (simp; done) | (simp; omega)))) | with_reducible refine Ext.trans ?_ (by assumption)))
    · -- no
      by_cases h0 : off < 0
      · -- yes
        have hz0 : 0 < data.size := by rw [empty_size] at he; have := of_decide_eq_false he; omega
        have hC : insC nx cs off data = cs := by rw [insC, if_neg (by simp [insOk]; omega)]
        rw [hC]
        clear hC
        clear hz0
        
        have hn' := hide hn
        have hx' := hide hx
        have hw' := hide hw
        clear hn hx hw
        go_enter Try.func6, Try.ntmps6
        go_wp2_with fail
        refine (IsBuffer_impl nx ao n ca cs _ (hx'.out.ext (by repeat (first | with_reducible exact Ext.refl _ | with_reducible assumption | with_reducible refine Ext.alloc ?_ _ | with_reducible refine Ext.drew ?_ | with_reducible refine Ext.drewN ?_ _ | ((with_reducible refine Ext.set ?_ ?_ _); (focus (first | (simp; done) | (simp; omega)))) | with_reducible refine Ext.trans ?_ (by assumption)))) hn'.out (by omega) hw'.out).mono ?_
        rintro en w1 ⟨rfl, hb1⟩
        rw [hi]
        have k1_0 := hb1.more (k := w.heap.size) (by first | assumption | (simp; done) | (simp; omega) | omega)
        obtain ⟨c1_0, f1_0⟩ := hb1.row (k := w.heap.size) (by first | assumption | (simp; done) | (simp; omega) | omega)
        have k1_1 := hb1.more (k := w.heap.size + 1) (by first | assumption | (simp; done) | (simp; omega) | omega)
        obtain ⟨c1_1, f1_1⟩ := hb1.row (k := w.heap.size + 1) (by first | assumption | (simp; done) | (simp; omega) | omega)
        have k1_2 := hb1.more (k := w.heap.size + 1 + 1) (by first | assumption | (simp; done) | (simp; omega) | omega)
        obtain ⟨c1_2, f1_2⟩ := hb1.row (k := w.heap.size + 1 + 1) (by first | assumption | (simp; done) | (simp; omega) | omega)
        have k1_3 := hb1.more (k := w.heap.size + 1 + 1 + 1) (by first | assumption | (simp; done) | (simp; omega) | omega)
        obtain ⟨c1_3, f1_3⟩ := hb1.row (k := w.heap.size + 1 + 1 + 1) (by first | assumption | (simp; done) | (simp; omega) | omega)
        go_wp2_with fail
        refine (copyBuffer_any nx ao n ca cs _ (hx'.out.ext (by repeat (first | with_reducible exact Ext.refl _ | with_reducible assumption | with_reducible refine Ext.alloc ?_ _ | with_reducible refine Ext.drew ?_ | with_reducible refine Ext.drewN ?_ _ | ((with_reducible refine Ext.set ?_ ?_ _); (focus (first | (simp; done) | (simp; omega)))) | with_reducible refine Ext.trans ?_ (by assumption)))) hn'.out hl).mono ?_
        rintro en w2 ⟨ao2, cap2, rfl, ho2, hb2⟩
        have k2_0 := hb2.more (k := w.heap.size) (by first | assumption | (simp; done) | (simp; omega) | omega)
        obtain ⟨c2_0, f2_0⟩ := hb2.row (k := w.heap.size) (by first | assumption | (simp; done) | (simp; omega) | omega)
        have k2_1 := hb2.more (k := w.heap.size + 1) (by first | assumption | (simp; done) | (simp; omega) | omega)
        obtain ⟨c2_1, f2_1⟩ := hb2.row (k := w.heap.size + 1) (by first | assumption | (simp; done) | (simp; omega) | omega)
        have k2_2 := hb2.more (k := w.heap.size + 1 + 1) (by first | assumption | (simp; done) | (simp; omega) | omega)
        obtain ⟨c2_2, f2_2⟩ := hb2.row (k := w.heap.size + 1 + 1) (by first | assumption | (simp; done) | (simp; omega) | omega)
        have k2_3 := hb2.more (k := w.heap.size + 1 + 1 + 1) (by first | assumption | (simp; done) | (simp; omega) | omega)
        obtain ⟨c2_3, f2_3⟩ := hb2.row (k := w.heap.size + 1 + 1 + 1) (by first | assumption | (simp; done) | (simp; omega) | omega)
        go_wp2
        refine bodyPost_ret (v := .agg #[.int .i64 nx, .slice ao2 cs.length cap2]) (by simp [results, Try.results6, go_sem, *]) rfl ⟨ao2, cap2, rfl, ?_, ?_⟩
        · refine OwnC.mono (OwnC.chg (S := fun k => k < w1.heap.size) ho2 (by repeat (first | with_reducible exact Chg.refl _ _ | with_reducible assumption | with_reducible refine Chg.alloc ?_ _ | with_reducible refine Chg.drew ?_ | ((with_reducible refine Chg.set ?_ ?_ _); (focus (first | (left; simp; done) | (left; simp; omega) | (left; omega)))))) (fun b h1 h2 h3 => by omega)) (by omega) (by simp)
        · exact (by repeat (first | with_reducible exact Ext.refl _ | with_reducible assumption | with_reducible refine Ext.alloc ?_ _ | with_reducible refine Ext.drew ?_ | with_reducible refine Ext.drewN ?_ _ | ((with_reducible refine Ext.set ?_ ?_ _); (focus (first | (simp; done) | (simp; omega)))) | with_reducible refine Ext.trans ?_ (by assumption)))
      · -- no
        have h0x : ¬ (off < 0) := h0
        have h0d : decide (off < 0) = false := decide_eq_false h0x
        replace h0 : 0 ≤ off := by omega
        by_cases h1 : 4611686018427387903 - (data.size : Int) < off
        · -- yes
          have hz0 : 0 < data.size := by rw [empty_size] at he; have := of_decide_eq_false he; omega
          have wr1 : IntKind.i64.wrap (4611686018427387903 - (data.size : Int)) = 4611686018427387903 - (data.size : Int) := IntWalk.i64_in _ (by omega)
          have hC : insC nx cs off data = cs := by rw [insC, if_neg (by simp [insOk]; omega)]
          rw [hC]
          clear hC
          clear hz0
          
          have hn' := hide hn
          have hx' := hide hx
          have hw' := hide hw
          clear hn hx hw
          go_enter Try.func6, Try.ntmps6
          go_wp2_with fail
          refine (IsBuffer_impl nx ao n ca cs _ (hx'.out.ext (by repeat (first | with_reducible exact Ext.refl _ | with_reducible assumption | with_reducible refine Ext.alloc ?_ _ | with_reducible refine Ext.drew ?_ | with_reducible refine Ext.drewN ?_ _ | ((with_reducible refine Ext.set ?_ ?_ _); (focus (first | (simp; done) | (simp; omega)))) | with_reducible refine Ext.trans ?_ (by assumption)))) hn'.out (by omega) hw'.out).mono ?_
          rintro en w1 ⟨rfl, hb1⟩
          rw [hi]
          have k1_0 := hb1.more (k := w.heap.size) (by first | assumption | (simp; done) | (simp; omega) | omega)
          obtain ⟨c1_0, f1_0⟩ := hb1.row (k := w.heap.size) (by first | assumption | (simp; done) | (simp; omega) | omega)
          have k1_1 := hb1.more (k := w.heap.size + 1) (by first | assumption | (simp; done) | (simp; omega) | omega)
          obtain ⟨c1_1, f1_1⟩ := hb1.row (k := w.heap.size + 1) (by first | assumption | (simp; done) | (simp; omega) | omega)
          have k1_2 := hb1.more (k := w.heap.size + 1 + 1) (by first | assumption | (simp; done) | (simp; omega) | omega)
          obtain ⟨c1_2, f1_2⟩ := hb1.row (k := w.heap.size + 1 + 1) (by first | assumption | (simp; done) | (simp; omega) | omega)
          have k1_3 := hb1.more (k := w.heap.size + 1 + 1 + 1) (by first | assumption | (simp; done) | (simp; omega) | omega)
          obtain ⟨c1_3, f1_3⟩ := hb1.row (k := w.heap.size + 1 + 1 + 1) (by first | assumption | (simp; done) | (simp; omega) | omega)
          go_wp2_with fail
          refine (copyBuffer_any nx ao n ca cs _ (hx'.out.ext (by repeat (first | with_reducible exact Ext.refl _ | with_reducible assumption | with_reducible refine Ext.alloc ?_ _ | with_reducible refine Ext.drew ?_ | with_reducible refine Ext.drewN ?_ _ | ((with_reducible refine Ext.set ?_ ?_ _); (focus (first | (simp; done) | (simp; omega)))) | with_reducible refine Ext.trans ?_ (by assumption)))) hn'.out hl).mono ?_
          rintro en w2 ⟨ao2, cap2, rfl, ho2, hb2⟩
          have k2_0 := hb2.more (k := w.heap.size) (by first | assumption | (simp; done) | (simp; omega) | omega)
          obtain ⟨c2_0, f2_0⟩ := hb2.row (k := w.heap.size) (by first | assumption | (simp; done) | (simp; omega) | omega)
          have k2_1 := hb2.more (k := w.heap.size + 1) (by first | assumption | (simp; done) | (simp; omega) | omega)
          obtain ⟨c2_1, f2_1⟩ := hb2.row (k := w.heap.size + 1) (by first | assumption | (simp; done) | (simp; omega) | omega)
          have k2_2 := hb2.more (k := w.heap.size + 1 + 1) (by first | assumption | (simp; done) | (simp; omega) | omega)
          obtain ⟨c2_2, f2_2⟩ := hb2.row (k := w.heap.size + 1 + 1) (by first | assumption | (simp; done) | (simp; omega) | omega)
          have k2_3 := hb2.more (k := w.heap.size + 1 + 1 + 1) (by first | assumption | (simp; done) | (simp; omega) | omega)
          obtain ⟨c2_3, f2_3⟩ := hb2.row (k := w.heap.size + 1 + 1 + 1) (by first | assumption | (simp; done) | (simp; omega) | omega)
          go_wp2
          refine bodyPost_ret (v := .agg #[.int .i64 nx, .slice ao2 cs.length cap2]) (by simp [results, Try.results6, go_sem, *]) rfl ⟨ao2, cap2, rfl, ?_, ?_⟩
          · refine OwnC.mono (OwnC.chg (S := fun k => k < w1.heap.size) ho2 (by repeat (first | with_reducible exact Chg.refl _ _ | with_reducible assumption | with_reducible refine Chg.alloc ?_ _ | with_reducible refine Chg.drew ?_ | ((with_reducible refine Chg.set ?_ ?_ _); (focus (first | (left; simp; done) | (left; simp; omega) | (left; omega)))))) (fun b h1 h2 h3 => by omega)) (by omega) (by simp)
          · exact (by repeat (first | with_reducible exact Ext.refl _ | with_reducible assumption | with_reducible refine Ext.alloc ?_ _ | with_reducible refine Ext.drew ?_ | with_reducible refine Ext.drewN ?_ _ | ((with_reducible refine Ext.set ?_ ?_ _); (focus (first | (simp; done) | (simp; omega)))) | with_reducible refine Ext.trans ?_ (by assumption)))
        · -- no
          have h1x : ¬ (4611686018427387903 - (data.size : Int) < off) := h1
          have h1d : decide (4611686018427387903 - (data.size : Int) < off) = false := decide_eq_false h1x
          replace h1 : off ≤ 4611686018427387903 - (data.size : Int) := by omega
          by_cases h2 : off + (data.size : Int) ≤ nx
          · -- yes
            have hz0 : 0 < data.size := by rw [empty_size] at he; have := of_decide_eq_false he; omega
            have wr1 : IntKind.i64.wrap (4611686018427387903 - (data.size : Int)) = 4611686018427387903 - (data.size : Int) := IntWalk.i64_in _ (by omega)
            have wr2 : IntKind.i64.wrap (off + (data.size : Int)) = off + (data.size : Int) := IntWalk.i64_in _ (by omega)
            have hC : insC nx cs off data = cs := by rw [insC, if_neg (by simp [insOk]; omega)]
            rw [hC]
            clear hC
            clear hz0
            
            have hn' := hide hn
            have hx' := hide hx
            have hw' := hide hw
            clear hn hx hw
            go_enter Try.func6, Try.ntmps6
            go_wp2_with fail
            refine (IsBuffer_impl nx ao n ca cs _ (hx'.out.ext (by repeat (first | with_reducible exact Ext.refl _ | with_reducible assumption | with_reducible refine Ext.alloc ?_ _ | with_reducible refine Ext.drew ?_ | with_reducible refine Ext.drewN ?_ _ | ((with_reducible refine Ext.set ?_ ?_ _); (focus (first | (simp; done) | (simp; omega)))) | with_reducible refine Ext.trans ?_ (by assumption)))) hn'.out (by omega) hw'.out).mono ?_
            rintro en w1 ⟨rfl, hb1⟩
            rw [hi]
            have k1_0 := hb1.more (k := w.heap.size) (by first | assumption | (simp; done) | (simp; omega) | omega)
            obtain ⟨c1_0, f1_0⟩ := hb1.row (k := w.heap.size) (by first | assumption | (simp; done) | (simp; omega) | omega)
            have k1_1 := hb1.more (k := w.heap.size + 1) (by first | assumption | (simp; done) | (simp; omega) | omega)
            obtain ⟨c1_1, f1_1⟩ := hb1.row (k := w.heap.size + 1) (by first | assumption | (simp; done) | (simp; omega) | omega)
            have k1_2 := hb1.more (k := w.heap.size + 1 + 1) (by first | assumption | (simp; done) | (simp; omega) | omega)
            obtain ⟨c1_2, f1_2⟩ := hb1.row (k := w.heap.size + 1 + 1) (by first | assumption | (simp; done) | (simp; omega) | omega)
            have k1_3 := hb1.more (k := w.heap.size + 1 + 1 + 1) (by first | assumption | (simp; done) | (simp; omega) | omega)
            obtain ⟨c1_3, f1_3⟩ := hb1.row (k := w.heap.size + 1 + 1 + 1) (by first | assumption | (simp; done) | (simp; omega) | omega)
            go_wp2_with fail
            refine (copyBuffer_any nx ao n ca cs _ (hx'.out.ext (by repeat (first | with_reducible exact Ext.refl _ | with_reducible assumption | with_reducible refine Ext.alloc ?_ _ | with_reducible refine Ext.drew ?_ | with_reducible refine Ext.drewN ?_ _ | ((with_reducible refine Ext.set ?_ ?_ _); (focus (first | (simp; done) | (simp; omega)))) | with_reducible refine Ext.trans ?_ (by assumption)))) hn'.out hl).mono ?_
            rintro en w2 ⟨ao2, cap2, rfl, ho2, hb2⟩
            have k2_0 := hb2.more (k := w.heap.size) (by first | assumption | (simp; done) | (simp; omega) | omega)
            obtain ⟨c2_0, f2_0⟩ := hb2.row (k := w.heap.size) (by first | assumption | (simp; done) | (simp; omega) | omega)
            have k2_1 := hb2.more (k := w.heap.size + 1) (by first | assumption | (simp; done) | (simp; omega) | omega)
            obtain ⟨c2_1, f2_1⟩ := hb2.row (k := w.heap.size + 1) (by first | assumption | (simp; done) | (simp; omega) | omega)
            have k2_2 := hb2.more (k := w.heap.size + 1 + 1) (by first | assumption | (simp; done) | (simp; omega) | omega)
            obtain ⟨c2_2, f2_2⟩ := hb2.row (k := w.heap.size + 1 + 1) (by first | assumption | (simp; done) | (simp; omega) | omega)
            have k2_3 := hb2.more (k := w.heap.size + 1 + 1 + 1) (by first | assumption | (simp; done) | (simp; omega) | omega)
            obtain ⟨c2_3, f2_3⟩ := hb2.row (k := w.heap.size + 1 + 1 + 1) (by first | assumption | (simp; done) | (simp; omega) | omega)
            go_wp2
            refine bodyPost_ret (v := .agg #[.int .i64 nx, .slice ao2 cs.length cap2]) (by simp [results, Try.results6, go_sem, *]) rfl ⟨ao2, cap2, rfl, ?_, ?_⟩
            · refine OwnC.mono (OwnC.chg (S := fun k => k < w1.heap.size) ho2 (by repeat (first | with_reducible exact Chg.refl _ _ | with_reducible assumption | with_reducible refine Chg.alloc ?_ _ | with_reducible refine Chg.drew ?_ | ((with_reducible refine Chg.set ?_ ?_ _); (focus (first | (left; simp; done) | (left; simp; omega) | (left; omega)))))) (fun b h1 h2 h3 => by omega)) (by omega) (by simp)
            · exact (by repeat (first | with_reducible exact Ext.refl _ | with_reducible assumption | with_reducible refine Ext.alloc ?_ _ | with_reducible refine Ext.drew ?_ | with_reducible refine Ext.drewN ?_ _ | ((with_reducible refine Ext.set ?_ ?_ _); (focus (first | (simp; done) | (simp; omega)))) | with_reducible refine Ext.trans ?_ (by assumption)))
          · -- no
            have h2x : ¬ (off + (data.size : Int) ≤ nx) := h2
            have h2d : decide (off + (data.size : Int) ≤ nx) = false := decide_eq_false h2x
            replace h2 : nx < off + (data.size : Int) := by omega
            have hz0 : 0 < data.size := by rw [empty_size] at he; have := of_decide_eq_false he; omega
            have wr1 : IntKind.i64.wrap (4611686018427387903 - (data.size : Int)) = 4611686018427387903 - (data.size : Int) := IntWalk.i64_in _ (by omega)
            have wr2 : IntKind.i64.wrap (off + (data.size : Int)) = off + (data.size : Int) := IntWalk.i64_in _ (by omega)
            have hok : insOk nx cs off data = true := by
              simp only [insOk, hi, Bool.true_and, Bool.and_eq_true, decide_eq_true_eq]
              omega
            have hC : insC nx cs off data = insI nx cs off data := if_pos hok
            rw [hC]
            exact InsertData_yes nx off data ao n ca cs w hx hn hl hw hoff hds hok
  · -- no
    have hC : insC nx cs off data = cs := by rw [insC, if_neg (by simp [insOk, hi])]
    rw [hC]
    clear hC
    
    have hn' := hide hn
    have hx' := hide hx
    have hw' := hide hw
    clear hn hx hw
    go_enter Try.func6, Try.ntmps6
    go_wp2_with fail
    refine (IsBuffer_impl nx ao n ca cs _ (hx'.out.ext (by repeat (first | with_reducible exact Ext.refl _ | with_reducible assumption | with_reducible refine Ext.alloc ?_ _ | with_reducible refine Ext.drew ?_ | with_reducible refine Ext.drewN ?_ _ | ((with_reducible refine Ext.set ?_ ?_ _); (focus (first | (simp; done) | (simp; omega)))) | with_reducible refine Ext.trans ?_ (by assumption)))) hn'.out (by omega) hw'.out).mono ?_
    rintro en w1 ⟨rfl, hb1⟩
    rw [hi]
    have k1_0 := hb1.more (k := w.heap.size) (by first | assumption | (simp; done) | (simp; omega) | omega)
    obtain ⟨c1_0, f1_0⟩ := hb1.row (k := w.heap.size) (by first | assumption | (simp; done) | (simp; omega) | omega)
    have k1_1 := hb1.more (k := w.heap.size + 1) (by first | assumption | (simp; done) | (simp; omega) | omega)
    obtain ⟨c1_1, f1_1⟩ := hb1.row (k := w.heap.size + 1) (by first | assumption | (simp; done) | (simp; omega) | omega)
    have k1_2 := hb1.more (k := w.heap.size + 1 + 1) (by first | assumption | (simp; done) | (simp; omega) | omega)
    obtain ⟨c1_2, f1_2⟩ := hb1.row (k := w.heap.size + 1 + 1) (by first | assumption | (simp; done) | (simp; omega) | omega)
    have k1_3 := hb1.more (k := w.heap.size + 1 + 1 + 1) (by first | assumption | (simp; done) | (simp; omega) | omega)
    obtain ⟨c1_3, f1_3⟩ := hb1.row (k := w.heap.size + 1 + 1 + 1) (by first | assumption | (simp; done) | (simp; omega) | omega)
    go_wp2_with fail
    refine (copyBuffer_any nx ao n ca cs _ (hx'.out.ext (by repeat (first | with_reducible exact Ext.refl _ | with_reducible assumption | with_reducible refine Ext.alloc ?_ _ | with_reducible refine Ext.drew ?_ | with_reducible refine Ext.drewN ?_ _ | ((with_reducible refine Ext.set ?_ ?_ _); (focus (first | (simp; done) | (simp; omega)))) | with_reducible refine Ext.trans ?_ (by assumption)))) hn'.out hl).mono ?_
    rintro en w2 ⟨ao2, cap2, rfl, ho2, hb2⟩
    have k2_0 := hb2.more (k := w.heap.size) (by first | assumption | (simp; done) | (simp; omega) | omega)
    obtain ⟨c2_0, f2_0⟩ := hb2.row (k := w.heap.size) (by first | assumption | (simp; done) | (simp; omega) | omega)
    have k2_1 := hb2.more (k := w.heap.size + 1) (by first | assumption | (simp; done) | (simp; omega) | omega)
    obtain ⟨c2_1, f2_1⟩ := hb2.row (k := w.heap.size + 1) (by first | assumption | (simp; done) | (simp; omega) | omega)
    have k2_2 := hb2.more (k := w.heap.size + 1 + 1) (by first | assumption | (simp; done) | (simp; omega) | omega)
    obtain ⟨c2_2, f2_2⟩ := hb2.row (k := w.heap.size + 1 + 1) (by first | assumption | (simp; done) | (simp; omega) | omega)
    have k2_3 := hb2.more (k := w.heap.size + 1 + 1 + 1) (by first | assumption | (simp; done) | (simp; omega) | omega)
    obtain ⟨c2_3, f2_3⟩ := hb2.row (k := w.heap.size + 1 + 1 + 1) (by first | assumption | (simp; done) | (simp; omega) | omega)
    go_wp2
    refine bodyPost_ret (v := .agg #[.int .i64 nx, .slice ao2 cs.length cap2]) (by simp [results, Try.results6, go_sem, *]) rfl ⟨ao2, cap2, rfl, ?_, ?_⟩
    · refine OwnC.mono (OwnC.chg (S := fun k => k < w1.heap.size) ho2 (by repeat (first | with_reducible exact Chg.refl _ _ | with_reducible assumption | with_reducible refine Chg.alloc ?_ _ | with_reducible refine Chg.drew ?_ | ((with_reducible refine Chg.set ?_ ?_ _); (focus (first | (left; simp; done) | (left; simp; omega) | (left; omega)))))) (fun b h1 h2 h3 => by omega)) (by omega) (by simp)
    · exact (by repeat (first | with_reducible exact Ext.refl _ | with_reducible assumption | with_reducible refine Ext.alloc ?_ _ | with_reducible refine Ext.drew ?_ | with_reducible refine Ext.drewN ?_ _ | ((with_reducible refine Ext.set ?_ ?_ _); (focus (first | (simp; done) | (simp; omega)))) | with_reducible refine Ext.trans ?_ (by assumption)))
end Go.Proofs.Ytjnbiacnhimkgaa
