/-
  Contract of InsertData of the reference. Conditions: the chunks can be read.
-/
import Derived.Test.YtjnbiacnhimkgaaInsert
import Derived.Test.YtjnbiacnhimkgaaByteAt
import Derived.Test.YtjnbiacnhimkgaaByte
import Derived.Deep.RegionHeld3
namespace Go.Proofs.Ytjnbiacnhimkgaa
open Go.ChangeShapes Go.WideShapes Go.ChangeAt Go.RowKit
set_option linter.unusedSimpArgs false
set_option linter.unusedVariables false
theorem ckRgs_top {lo : Int} : ∀ {cs : List Ck}, bufFrom lo cs = true → TopR 4611686018427387903 (ckRgs cs)
  | [], _ => fun r hr => by simp [ckRgs] at hr
  | c :: cs, h => by
    simp only [bufFrom, Bool.and_eq_true, decide_eq_true_eq] at h
    intro r hr
    have e : ckRgs (c :: cs) = (c.1, c.1 + (c.2.size : Int)) :: ckRgs cs := rfl
    rw [e] at hr
    rcases List.mem_cons.1 hr with rfl | hr
    · exact h.2.2.1
    · exact ckRgs_top h.2.2.2 r hr
theorem isBuf_rgs {nx : Int} {cs : List Ck} (h : isBuf nx cs = true) : isRgs (ckRgs cs) = true := by
  have h1 := isBuf_canon h
  have h2 := isBuf_nx h
  simp only [isBuf, Bool.and_eq_true] at h
  exact can_rgsFrom (Int.le_refl _) (ckRgs_can (h1.mono h2.1)) (ckRgs_top h.2)
/-- The ranges that the reference joins. -/
def insR (nx : Int) (cs : List Ck) (off : Int) (data : ByteArray) : List Rg := addRec (max off nx, off + (data.size : Int)) (ckRgs cs)
theorem insS_R (nx : Int) (cs : List Ck) (off : Int) (data : ByteArray) : insS nx cs off data = rgsCk (insB cs off data) (insR nx cs off data) := rfl
theorem insR_can {nx : Int} {cs : List Ck} {off : Int} {data : ByteArray} (h : isBuf nx cs = true) (h0 : 0 ≤ off) (hp : max off nx < off + (data.size : Int)) : CanR 0 (insR nx cs off data) :=
  addRec_can _ _ 0 (ckRgs_can ((isBuf_canon h).mono (isBuf_nx h).1)) (by show 0 ≤ max off nx; omega) hp
theorem insR_top {nx : Int} {cs : List Ck} {off : Int} {data : ByteArray} (h : isBuf nx cs = true) (h1 : off + (data.size : Int) ≤ 4611686018427387903) : TopR 4611686018427387903 (insR nx cs off data) := by
  simp only [isBuf, Bool.and_eq_true] at h
  exact addRec_top _ _ (ckRgs_top h.2) h1
theorem can_at : ∀ {l : List Rg} {lo : Int} {k : Nat}, CanR lo l → k < l.length → lo ≤ (l.getD k dr).1 ∧ (l.getD k dr).1 < (l.getD k dr).2
  | [], _, _, _, h => absurd h (by simp)
  | r :: rs, lo, 0, h, _ => ⟨h.1, h.2.1⟩
  | r :: rs, lo, k + 1, h, hk => by
    have := can_at (k := k) h.2.2 (by simpa using hk)
    have h1 := h.1
    have h2 := h.2.1
    have e : (r :: rs).getD (k + 1) dr = rs.getD k dr := rfl
    rw [e]
    omega
theorem top_at {m : Int} {l : List Rg} {k : Nat} (h : TopR m l) (hk : k < l.length) : (l.getD k dr).2 ≤ m :=
  h _ (by simp [List.getD, List.getElem?_eq_getElem hk])
/-- The byte at a place of a joined range, as the reference finds it. -/
theorem ins_byte {nx : Int} {cs : List Ck} {off : Int} {data : ByteArray} {a : Int} (h : isBuf nx cs = true) (hp : max off nx < off + (data.size : Int)) {k : Nat} (hk : k < (insR nx cs off data).length)
    (h1 : ((insR nx cs off data).getD k dr).1 ≤ a) (h2 : a < ((insR nx cs off data).getD k dr).2) :
    (0 ≤ bytAt cs a ∧ bytAt cs a = ((insB cs off data a).toNat : Int)) ∨ (bytAt cs a = -1 ∧ off ≤ a ∧ a < off + (data.size : Int) ∧ insB cs off data a = data.data.getD (a - off).toNat 0) := by
  have hin : inR (insR nx cs off data) a := ⟨_, by simp [List.getD, List.getElem?_eq_getElem hk], h1, h2⟩
  have hc := (addRec_in (ckRgs cs) (max off nx, off + (data.size : Int)) nx a (ckRgs_can (isBuf_canon h)) hp).1 hin
  rw [ckRgs_in] at hc
  rw [bytAt_at]
  unfold insB
  cases hb : atC cs a with
  | some b => left; dsimp only; exact ⟨Int.natCast_nonneg _, rfl⟩
  | none =>
    right
    rw [hb] at hc
    rcases hc with ⟨g1, g2⟩ | ⟨b, hb2⟩
    · dsimp only at g1 g2 ⊢
      exact ⟨rfl, by omega, by omega, rfl⟩
    · cases hb2
theorem byteS_of (b : UInt8) : byteS (b.toNat : Int) = ⟨#[b]⟩ := by
  unfold byteS
  rw [Int.toNat_natCast, UInt8.ofNat_toNat]
theorem bytesOf_succ (f : Int → UInt8) (lo : Int) (j : Nat) : bytesOf f lo j ++ byteS ((f (lo + j)).toNat : Int) = bytesOf f lo (j + 1) := by
  rw [byteS_of]
  apply ByteArray.ext
  show _ = (bytesOf f lo j).data.push _
  simp [ByteArray.data_append]
theorem rgsCk_take (f : Int → UInt8) (l : List Rg) {k : Nat} (hk : k < l.length) : rgsCk f (l.take (k + 1)) = rgsCk f (l.take k) ++ [((l.getD k dr).1, bytesOf f (l.getD k dr).1 ((l.getD k dr).2 - (l.getD k dr).1).toNat)] := by
  rw [takeR_succ l hk]; simp [rgsCk]
theorem rgsCk_length (f : Int → UInt8) (l : List Rg) : (rgsCk f l).length = l.length := by simp [rgsCk]
theorem ckCells_app2 (ls : List Ck) (o : Int) (s : ByteArray) : ckCells ls ++ [.int .i64 o, .string s] = ckCells (ls ++ [(o, s)]) := by
  simp [ckCells]
set_option maxHeartbeats 4000000 in
set_option maxRecDepth 100000 in
theorem InsertDataS_yes (nx off : Int) (data : ByteArray) (ao : Option Addr) (n ca : Nat) (cs : List Ck) (w : World) (hx : ReadC w ao cs) (hn : cs.length = n) (hl : n ≤ 1048576) (hw : WfC cs) (hoff : -9223372036854775808 ≤ off ∧ off ≤ 9223372036854775807) (hds : (data.size : Int) ≤ 1048576) (hok : insOk nx cs off data = true) :
    Calls Try.prog 7 #[.agg #[.int .i64 nx, .slice ao n ca], .int .i64 off, .string data] w (NewBufV nx (insS nx cs off data) w) := by
  obtain ⟨hok1, hok2⟩ : isBuf nx cs = true ∧ (0 < data.size ∧ 0 ≤ off ∧ off + (data.size : Int) ≤ 4611686018427387903 ∧ nx < off + (data.size : Int)) := by
    simp only [insOk, Bool.and_eq_true, decide_eq_true_eq] at hok
    exact hok
  obtain ⟨hzz, h0, h1, h2⟩ := hok2
  have he : data.toList.isEmpty = false := by rw [empty_size]; exact decide_eq_false (by omega)
  have wr1 : IntKind.i64.wrap (4611686018427387903 - (data.size : Int)) = 4611686018427387903 - (data.size : Int) := IntWalk.i64_in _ (by omega)
  have wr2 : IntKind.i64.wrap (off + (data.size : Int)) = off + (data.size : Int) := IntWalk.i64_in _ (by omega)
  have d0 : decide (off < 0) = false := decide_eq_false (by omega)
  have d1 : decide (4611686018427387903 - (data.size : Int) < off) = false := decide_eq_false (by omega)
  have hp : max off nx < off + (data.size : Int) := by omega
  have hn' := hide hn
  have hx' := hide hx
  have hw' := hide hw
  have hwb' := hide (isBuf_wb hok1)
  have hok' := hide hok
  obtain ⟨i0, hi0, hz0, hz1, hz2⟩ := info_parts infoChunk
  clear hn hx hw hok
  go_enter Try.func7, Try.ntmps7
  go_wp2_with fail
  refine (IsBuffer_spec nx ao n ca cs _ (hx'.out.ext (by repeat (first | with_reducible exact Ext.refl _ | with_reducible assumption | with_reducible refine Ext.alloc ?_ _ | with_reducible refine Ext.drew ?_ | with_reducible refine Ext.drewN ?_ _ | ((with_reducible refine Ext.set ?_ ?_ _); (focus (first | (simp; done) | (simp; omega)))) | with_reducible refine Ext.trans ?_ (by assumption)))) hn'.out (by omega) hw'.out).mono ?_
  rintro en w1 ⟨rfl, hb1⟩
  rw [hok1]
  have hs1 : w.heap.size + 2 ≤ w1.heap.size := by have := hb1.size; simp at this; omega
  have xw1 : Ext w w1 := (by repeat (first | with_reducible exact Ext.refl _ | with_reducible assumption | with_reducible refine Ext.alloc ?_ _ | with_reducible refine Ext.drew ?_ | with_reducible refine Ext.drewN ?_ _ | ((with_reducible refine Ext.set ?_ ?_ _); (focus (first | (simp; done) | (simp; omega)))) | with_reducible refine Ext.trans ?_ (by assumption)))
  have k1a : w.heap.size < w1.heap.size := by omega
  have k1b : w.heap.size + 1 < w1.heap.size := by omega
  obtain ⟨xb, yb⟩ := hb1.row (k := w.heap.size) (by first | assumption | (simp; done) | (simp; omega) | omega)
  have c30 : w1.cell? ⟨w.heap.size, 0, none⟩ = some (.int .i64 nx) := (by rw [xb]; simp [go_sem])
  have c31 : w1.cell? ⟨w.heap.size, 1, none⟩ = some (.slice ao n ca) := (by rw [xb]; simp [go_sem])
  clear xb yb
  obtain ⟨xb, yb⟩ := hb1.row (k := w.heap.size + 1) (by first | assumption | (simp; done) | (simp; omega) | omega)
  have c60 : w1.cell? ⟨w.heap.size + 1, 0, none⟩ = some (.int .i64 0) := (by rw [xb]; simp [go_sem])
  have c61 : w1.cell? ⟨w.heap.size + 1, 1, none⟩ = some (.slice none 0 0) := (by rw [xb]; simp [go_sem])
  have c6F : ∀ o, w1.frozen? ⟨w.heap.size + 1, o, none⟩ = false := fun o => (by rw [yb]; simp [go_sem])
  clear xb yb hb1
  go_wp2_with fail
  refine (BufferRanges_spec nx ao n ca cs _ (hx'.out.ext (xw1.trans (by repeat (first | with_reducible exact Ext.refl _ | with_reducible assumption | with_reducible refine Ext.alloc ?_ _ | with_reducible refine Ext.drew ?_ | with_reducible refine Ext.drewN ?_ _ | ((with_reducible refine Ext.set ?_ ?_ _); (focus (first | (simp; done) | (simp; omega)))) | with_reducible refine Ext.trans ?_ (by assumption))))) hn'.out hl hw'.out).mono ?_
  rintro en w2 ⟨ao2, cap2, rfl, ho2, hb2⟩
  have hs2 : w1.heap.size + 1 ≤ w2.heap.size := by have := hb2.size; simp at this; omega
  have xw2 : Ext w1 w2 := Ext.trans (by repeat (first | with_reducible exact Ext.refl _ | with_reducible assumption | with_reducible refine Ext.alloc ?_ _ | with_reducible refine Ext.drew ?_ | with_reducible refine Ext.drewN ?_ _ | ((with_reducible refine Ext.set ?_ ?_ _); (focus (first | (simp; done) | (simp; omega)))) | with_reducible refine Ext.trans ?_ (by assumption))) hb2
  have k2a : w.heap.size < w2.heap.size := by omega
  have k2b : w.heap.size + 1 < w2.heap.size := by omega
  have k2c : w1.heap.size < w2.heap.size := by omega
  obtain ⟨xb, yb⟩ := hb2.row (k := w1.heap.size) (by first | assumption | (simp; done) | (simp; omega) | omega)
  have c90 : w2.cell? ⟨w1.heap.size, 0, none⟩ = some (.int .i64 nx) := (by rw [xb]; simp [go_sem])
  have c91 : w2.cell? ⟨w1.heap.size, 1, none⟩ = some (.slice none 0 0) := (by rw [xb]; simp [go_sem])
  have c9F : ∀ o, w2.frozen? ⟨w1.heap.size, o, none⟩ = false := fun o => (by rw [yb]; simp [go_sem])
  clear xb yb
  obtain ⟨xb, yb⟩ := (xw2).row (k := w.heap.size) (by first | assumption | (simp; done) | (simp; omega) | omega)
  replace c30 := (xb 0).trans c30
  replace c31 := (xb 1).trans c31
  clear xb yb
  obtain ⟨xb, yb⟩ := (xw2).row (k := w.heap.size + 1) (by first | assumption | (simp; done) | (simp; omega) | omega)
  replace c60 := (xb 0).trans c60
  replace c61 := (xb 1).trans c61
  replace c6F := fun o => (yb o).trans (c6F o)
  clear xb yb
  clear hb2
  have hR : bufRgs nx cs = ckRgs cs := if_pos hok1
  rw [hR] at ho2 ⊢
  have hrl : (ckRgs cs).length = n := by rw [ckRgs_length, hn'.out]
  have hR' := hide hR
  have hrl' := hide hrl
  clear hR hrl
  go_wp2_with fail
  refine (AddRange_spec (max off nx) (off + (data.size : Int)) ao2 (ckRgs cs).length cap2 (ckRgs cs) _ ho2.read rfl (by rw [hrl'.out]; exact hl)).mono ?_
  rintro en w3 ⟨ao3, cap3, rfl, ho3, hb3⟩
  have hA : addR (ckRgs cs) (max off nx, off + (data.size : Int)) = insR nx cs off data := by
    refine addR_yes (isBuf_rgs hok1) ?_
    simp only [rgFine, Bool.and_eq_true, decide_eq_true_eq]
    omega
  rw [hA] at ho3 ⊢
  clear hA ho2
  obtain ⟨xb, yb⟩ := (hb3).row (k := w.heap.size) (by first | assumption | (simp; done) | (simp; omega) | omega)
  replace c30 := (xb 0).trans c30
  replace c31 := (xb 1).trans c31
  clear xb yb
  obtain ⟨xb, yb⟩ := (hb3).row (k := w.heap.size + 1) (by first | assumption | (simp; done) | (simp; omega) | omega)
  replace c60 := (xb 0).trans c60
  replace c61 := (xb 1).trans c61
  replace c6F := fun o => (yb o).trans (c6F o)
  clear xb yb
  obtain ⟨xb, yb⟩ := (hb3).row (k := w1.heap.size) (by first | assumption | (simp; done) | (simp; omega) | omega)
  replace c90 := (xb 0).trans c90
  replace c91 := (xb 1).trans c91
  replace c9F := fun o => (yb o).trans (c9F o)
  clear xb yb
  have xw3 : Ext w w3 := (xw1.trans xw2).trans hb3
  have hs3 : w2.heap.size ≤ w3.heap.size := hb3.size
  have k3a : w.heap.size < w3.heap.size := by omega
  have k3b : w.heap.size + 1 < w3.heap.size := by omega
  have k3c : w1.heap.size < w3.heap.size := by omega
  have ho3' := hide ho3
  have hcan := insR_can hok1 h0 hp
  have htop := insR_top (nx := nx) (cs := cs) (off := off) (data := data) hok1 h1
  have hlen : (insR nx cs off data).length ≤ n + 1 := by have := addRec_length (ckRgs cs) (max off nx, off + (data.size : Int)); rw [hrl'.out] at this; exact this
  clear ho3 hb3 xw2
  go_wp2_with fail
  go_loopw [11] (fun i wr => ∃ (k : Nat) (ao1 : Option Addr) (ca1 : Nat), i = .int .i64 k ∧ k ≤ (insR nx cs off data).length ∧ wr.cell? ⟨w1.heap.size, 0, none⟩ = some (.int .i64 nx) ∧ wr.cell? ⟨w1.heap.size, 1, none⟩ = some (.slice ao1 k ca1) ∧ (∀ o, wr.frozen? ⟨w1.heap.size, o, none⟩ = false) ∧ Hid (wr.ownsRow w3.heap.size 53 2 (.slice ao1 k ca1) k (ckCells (rgsCk (insB cs off data) ((insR nx cs off data).take k)))) ∧ Chg (fun b => b = w1.heap.size ∨ w3.heap.size ≤ b) w3 wr) (fun i _ => (insR nx cs off data).length - (intOf i).toNat)
  case atStart => exact ⟨0, none, 0, rfl, by omega, c90, c91, c9F, hide (World.ownsRow_nil w3 w3.heap.size 53 2), Chg.refl _ _⟩
  case round =>
    obtain ⟨wo, rfl⟩ : ∃ wo, wo = wr := ⟨_, rfl⟩
    obtain ⟨k, ao1, ca1, rfl, hk, b0, b1, bF, hown, hg⟩ := hrel
    have hgs := hg.size
    have hgx : Chg (fun b => b = w1.heap.size ∨ w3.heap.size ≤ b) w wo := (xw3.chg _).trans hg
    have hxr : Ext w wo := hgx.ext (fun k hk h => by omega)
    obtain ⟨xb, yb⟩ := hg.row (k := w.heap.size) (by omega) (by omega)
    have d30 := (xb 0).trans c30
    have d31 := (xb 1).trans c31
    clear xb yb
    by_cases hlt : k < (insR nx cs off data).length
    · rcases ho3'.out with hnil | ⟨bl, offl, rfl, hbl1, hbl2, _, hxl⟩
      · rw [hnil] at hlt; simp at hlt
      obtain ⟨cx, cx2⟩ := hxl k hlt
      have la : bl < w3.heap.size := hbl2
      have hbl : bl ≠ w1.heap.size := by omega
      obtain ⟨xb, yb⟩ := hg.row (k := bl) la (by omega)
      have dx := (xb _).trans cx
      have dx2 := (xb _).trans cx2
      have i1 : (0 : Int) ≤ (k : Int) := by omega
      have i2 : (k : Int) < ((insR nx cs off data).length : Int) := by omega
      obtain ⟨q1, q2⟩ := can_at hcan hlt
      have q3 := top_at htop hlt
      have hbyte : Hid (∀ a, ((insR nx cs off data).getD k dr).1 ≤ a → a < ((insR nx cs off data).getD k dr).2 → _) := hide (fun a => ins_byte (a := a) hok1 hp hlt)
      have htk := hide (rgsCk_take (insB cs off data) _ hlt)
      have hcl : Hid ((rgsCk (insB cs off data) ((insR nx cs off data).take k)).length = k) := hide (by rw [rgsCk_length, List.length_take]; omega)
      clear xb yb cx cx2 hxl
      obtain ⟨⟨lo, hi⟩, hr0⟩ : ∃ r : Rg, (insR nx cs off data).getD k dr = r := ⟨_, rfl⟩
      rw [hr0] at dx dx2 q1 q2 q3 hbyte htk
      dsimp only at dx dx2 q1 q2 q3 hbyte htk
      clear hr0 hcan htop
      have lw : bl < wo.heap.size := by omega
      go_wp2_with fail
      go_loopw [12, 13] (fun s a wq => ∃ j : Nat, s = .string (bytesOf (insB cs off data) lo j) ∧ a = .int .i64 (lo + (j : Int)) ∧ lo + (j : Int) ≤ hi ∧ Ext wo wq) (fun _ a _ => (hi - intOf a).toNat)
      case atStart => exact ⟨0, rfl, by first | rfl | (congr 1; omega), by omega, Ext.refl _⟩
      case round =>
        obtain ⟨j, rfl, rfl, hj, hgq⟩ := hrel
        obtain ⟨xb, yb⟩ := hgq.row (k := bl) lw
        have ex := (xb _).trans dx
        have ex2 := (xb _).trans dx2
        clear xb yb
        by_cases hjl : lo + (j : Int) < hi
        · obtain ⟨xb, yb⟩ := hgq.row (k := w.heap.size) (by omega)
          have e30 := (xb 0).trans d30
          have e31 := (xb 1).trans d31
          clear xb yb
          have hB := hbyte.out (lo + (j : Int)) (by omega) hjl
          have hbd := bytAt_bd cs (lo + (j : Int))
          have hsucc := hide (bytesOf_succ (insB cs off data) lo j)
          have hsz : (bytesOf (insB cs off data) lo j).size = j := bytesOf_size _ _ _
          have hsz2 : (bytesOf (insB cs off data) lo (j + 1)).size = j + 1 := bytesOf_size _ _ _
          have hkk : ¬ 9223372036854775807 < j + 1 := by omega
          go_wp2_with fail
          refine (ByteAt_spec nx (lo + (j : Int)) ao n ca cs _ (hx'.out.ext (hxr.trans (by repeat (first | with_reducible exact Ext.refl _ | with_reducible assumption | with_reducible refine Ext.alloc ?_ _ | with_reducible refine Ext.drew ?_ | with_reducible refine Ext.drewN ?_ _ | ((with_reducible refine Ext.set ?_ ?_ _); (focus (first | (simp; done) | (simp; omega)))) | with_reducible refine Ext.trans ?_ (by assumption))))) hn'.out hl hwb'.out ⟨by omega, by omega⟩).mono ?_
          rintro en w4 ⟨rfl, hb4⟩
          have hgq4 : Ext wo w4 := hgq.trans hb4
          clear e30 e31 ex ex2
          generalize bytAt cs (lo + (j : Int)) = v at *
          rcases hB with ⟨v0, v1⟩ | ⟨v0, v1, v2, v3⟩
          · rw [← v1] at hsucc
            clear v1
            obtain ⟨v2, v3⟩ := hbd
            have bsz : (byteS v).size = 1 := rfl
            have hss : (bytesOf (insB cs off data) lo j ++ byteS v).size = j + 1 := by rw [hsucc.out]; exact hsz2
            clear hsz2 v2
            go_wp2_with fail
            refine (l2Byte_any v _ v0 v3).mono ?_
            rintro en w5 ⟨rfl, hb5⟩
            go_wp2
            go_roundw
            case rel => exact ⟨j + 1, by rw [hsucc.out], by congr 1; omega, by omega, hgq4.trans hb5⟩
            case measure => simp [intOf]; omega
          · subst v0
            obtain ⟨q, hq⟩ : ∃ q : Nat, lo + (j : Int) - off = (q : Int) := ⟨(lo + (j : Int) - off).toNat, by omega⟩
            have hqs : q < data.size := by omega
            obtain ⟨v, hv⟩ : ∃ v : Int, v = ((insB cs off data (lo + (j : Int))).toNat : Int) := ⟨_, rfl⟩
            have hv0 : 0 ≤ v := by omega
            have hv1 : v ≤ 255 := by have := UInt8.toNat_lt (insB cs off data (lo + (j : Int))); omega
            rw [← hv] at hsucc
            have bsz : (byteS v).size = 1 := rfl
            have hss : (bytesOf (insB cs off data) lo j ++ byteS v).size = j + 1 := by rw [hsucc.out]; exact hsz2
            have hby : IntKind.i64.wrap ((data[q]'hqs).toNat : Int) = v := by
              rw [IntWalk.i64_in _ (by have := UInt8.toNat_lt (data[q]'hqs); omega), hv, v3, hq, Int.toNat_natCast]
              have e : q < data.data.size := hqs
              simp [Array.getD_eq_getD_getElem?, Array.getElem?_eq_getElem e]
              rfl
            have j0 : (0 : Int) ≤ (q : Int) := by omega
            have j1 : (q : Int) < (data.size : Int) := by omega
            clear hv v3 hsz2 hbd
            go_wp2_with fail
            refine (l2Byte_any v _ hv0 hv1).mono ?_
            rintro en w5 ⟨rfl, hb5⟩
            go_wp2
            go_roundw
            case rel => exact ⟨j + 1, by rw [hsucc.out], by congr 1; omega, by omega, hgq4.trans hb5⟩
            case measure => simp [intOf]; omega
        · have hje : (hi - lo).toNat = j := by omega
          rw [hje] at htk
          clear hje hbyte
          obtain ⟨xb, yb⟩ := hgq.row (k := w1.heap.size) (by omega)
          have f0 := (xb 0).trans b0
          have f1 := (xb 1).trans b1
          have fF := fun o => (yb o).trans (bF o)
          clear xb yb d30 d31 dx dx2 b0 b1 bF
          have hownq := hide (ownR_ext hown.out hgq)
          have hgq3 : Chg (fun b => b = w1.heap.size ∨ w3.heap.size ≤ b) w3 wr := hg.trans (hgq.chg _)
          have hqsz := hgq.size
          generalize bytesOf (insB cs off data) lo j = s at *
          have fF1 := fF 1
          have lwq : bl < wr.heap.size := by omega
          have l9q : w1.heap.size < wr.heap.size := by omega
          go_wp2_with fail
          go_region_law ((refine step_append_lies _ (by rfl) _ _ _ (by rfl) w3.heap.size 53 i0 _ 2 24 Try.underlying24 hi0 hz0 hz1 hz2 rfl (by omega) (.slice ao1 k ca1) k _ (by rfl) (((hownq.out).alloc (.cells #[.int .i64 lo, .string s] 53))) ⟨wr.heap.size, 0, none⟩ 1 1 [.int .i64 lo, .string s] (by rfl) (by rfl) (World.news_of_block (cs := #[.int .i64 lo, .string s]) (t := 53) (fr := (0, 0)) (heap_alloc_new wr _)) (by simp [Value.oneCell']) (by omega) (by simp [maxLen] <;> omega) (by omega) (by simp; omega) (wr.heap.size + 1) (by simp) ?_; intro gg cap w6 hown6 hgrow hat hlt6; have hch : Chg (fun b => w3.heap.size ≤ b) wr w6 := Chg.trans (Ext.chg (by repeat (first | with_reducible exact Ext.refl _ | with_reducible assumption | with_reducible refine Ext.alloc ?_ _ | with_reducible refine Ext.drew ?_ | with_reducible refine Ext.drewN ?_ _ | ((with_reducible refine Ext.set ?_ ?_ _); (focus (first | (simp; done) | (simp; omega)))) | with_reducible refine Ext.trans ?_ (by assumption))) _) (grown_chg hgrow (fun k hk => (hownq.out.lt _ hk).1)); obtain ⟨xb, yb⟩ := hch.row (k := w1.heap.size) l9q (by omega); have s1 := (xb 1).trans f1; have s0 := (xb 0).trans f0; have sF := fun o => (yb o).trans (fF o); clear xb yb; obtain ⟨xb, yb⟩ := hch.row (k := bl) lwq (by omega); have s2 := (xb _).trans ex; have sF1 := sF 1; clear xb yb hgrow hat))
          all_goals
            rw [ckCells_app2, ← htk.out] at hown6
            have hset : Chg (fun b => b = w1.heap.size) w6 (w6.setCell ⟨w1.heap.size, 1, none⟩ (.slice (some ⟨gg, 0, none⟩) (k + 1) cap)) := Chg.set (S := fun b => b = w1.heap.size) (p := ⟨w1.heap.size, 1, none⟩) (Or.inl rfl) (Chg.refl _ _) _
            have r0 : (w6.setCell ⟨w1.heap.size, 1, none⟩ (.slice (some ⟨gg, 0, none⟩) (k + 1) cap)).cell? ⟨w1.heap.size, 0, none⟩ = some (.int .i64 nx) := (World.cell?_setCell_other w6 ⟨w1.heap.size, 1, none⟩ ⟨w1.heap.size, 0, none⟩ _ (fun e => by injection e; omega)).trans s0
            have r1 : (w6.setCell ⟨w1.heap.size, 1, none⟩ (.slice (some ⟨gg, 0, none⟩) (k + 1) cap)).cell? ⟨w1.heap.size, 1, none⟩ = some (.slice (some ⟨gg, 0, none⟩) (k + 1) cap) := by rw [World.cell?_setCell_same' _ _ _ (by rw [s1]; rfl)]
            have rF : ∀ o, (w6.setCell ⟨w1.heap.size, 1, none⟩ (.slice (some ⟨gg, 0, none⟩) (k + 1) cap)).frozen? ⟨w1.heap.size, o, none⟩ = false := fun o => by rw [World.frozen?_setCell]; exact sF o
            have hown7 := hide (ownR_chg hown6 hset (fun b h => by (try dsimp only); omega))
            have hg7 : Chg (fun b => b = w1.heap.size ∨ w3.heap.size ≤ b) w3 (w6.setCell ⟨w1.heap.size, 1, none⟩ (.slice (some ⟨gg, 0, none⟩) (k + 1) cap)) := (hgq3.trans (hch.mono (fun b _ h => Or.inr h))).trans (hset.mono (fun b _ h => Or.inl h))
            clear hown6 s0 s1 s2 sF sF1 hset
            go_wp2
            go_roundw
            case rel => exact ⟨k + 1, _, cap, by go_num, by omega, r0, r1, rF, hown7, hg7⟩
            case measure => simp [intOf]; omega
    · obtain rfl : k = (insR nx cs off data).length := by omega
      have hall : Hid ((insS nx cs off data) = rgsCk (insB cs off data) ((insR nx cs off data).take (insR nx cs off data).length)) := hide (by rw [List.take_length]; rfl)
      have hcl : (rgsCk (insB cs off data) ((insR nx cs off data).take (insR nx cs off data).length)).length = (insR nx cs off data).length := by rw [rgsCk_length, List.length_take]; omega
      obtain ⟨xb, yb⟩ := hg.row (k := w.heap.size + 1) (by omega) (by omega)
      have d60 := (xb 0).trans c60
      have d61 := (xb 1).trans c61
      have d6F := fun o => (yb o).trans (c6F o)
      have k6b : w.heap.size + 1 < wo.heap.size := by omega
      have hcl' := hide hcl
      clear xb yb hcl
      go_wp2
      obtain ⟨aoC, capC, e1, e2, ho⟩ := own_chunks hown.out
      rw [hcl'.out] at e1
      refine bodyPost_ret (v := .agg #[.int .i64 nx, .slice ao1 (insR nx cs off data).length ca1]) (by simp [results, Try.results7, go_sem, *]) rfl ?_
      rw [hall.out]
      refine ⟨ao1, ca1, by rw [hcl'.out], ?_, ?_⟩
      · obtain ⟨rfl, rfl⟩ : ao1 = aoC ∧ ca1 = capC := by simpa using e1
        refine OwnC.mono (OwnC.chg (S := fun b => b = w.heap.size + 1) ho (by repeat (first | with_reducible exact Chg.refl _ _ | with_reducible assumption | with_reducible refine Chg.alloc ?_ _ | with_reducible refine Chg.drew ?_ | with_reducible refine Chg.drewN ?_ _ | ((with_reducible refine Chg.set ?_ ?_ _); (focus (first | (left; simp; done) | (left; simp; omega) | (right; simp; done) | (right; simp; omega)))))) (fun b h1 h2 h3 => by omega)) (by omega) (by simp)
      · exact (by repeat (first | with_reducible exact Ext.refl _ | with_reducible assumption | with_reducible refine Ext.alloc ?_ _ | with_reducible refine Ext.drew ?_ | with_reducible refine Ext.drewN ?_ _ | ((with_reducible refine Ext.set ?_ ?_ _); (focus (first | (simp; done) | (simp; omega)))) | with_reducible refine Ext.trans ?_ (by assumption)))
set_option maxHeartbeats 4000000 in
set_option maxRecDepth 100000 in
theorem InsertData_spec (nx off : Int) (data : ByteArray) (ao : Option Addr) (n ca : Nat) (cs : List Ck) (w : World) (hx : ReadC w ao cs) (hn : cs.length = n) (hl : n ≤ 1048576) (hw : WfC cs) (hoff : -9223372036854775808 ≤ off ∧ off ≤ 9223372036854775807) (hds : (data.size : Int) ≤ 1048576) :
    Calls Try.prog 7 #[.agg #[.int .i64 nx, .slice ao n ca], .int .i64 off, .string data] w (NewBufV nx (insC nx cs off data) w) := by
  rcases Bool.eq_false_or_eq_true (isBuf nx cs) with hi | hi
  · -- yes
    rcases Bool.eq_false_or_eq_true (data.toList.isEmpty) with he | he
    · -- yes
      have hz0 : data.size = 0 := by rw [empty_size] at he; exact of_decide_eq_true he
      have hC : insC nx cs off data = cs := by rw [insC, if_neg (by simp [insOk, hz0])]
      rw [hC]
      clear hC
      clear hz0
      have hn' := hide hn
      have hx' := hide hx
      have hw' := hide hw
      clear hn hx hw
      go_enter Try.func7, Try.ntmps7
      go_wp2_with fail
      refine (IsBuffer_spec nx ao n ca cs _ (hx'.out.ext (by repeat (first | with_reducible exact Ext.refl _ | with_reducible assumption | with_reducible refine Ext.alloc ?_ _ | with_reducible refine Ext.drew ?_ | with_reducible refine Ext.drewN ?_ _ | ((with_reducible refine Ext.set ?_ ?_ _); (focus (first | (simp; done) | (simp; omega)))) | with_reducible refine Ext.trans ?_ (by assumption)))) hn'.out (by omega) hw'.out).mono ?_
      rintro en w1 ⟨rfl, hb1⟩
      rw [hi]
      have k1_0 := hb1.more (k := w.heap.size) (by first | assumption | (simp; done) | (simp; omega) | omega)
      obtain ⟨c1_0, f1_0⟩ := hb1.row (k := w.heap.size) (by first | assumption | (simp; done) | (simp; omega) | omega)
      have k1_1 := hb1.more (k := w.heap.size + 1) (by first | assumption | (simp; done) | (simp; omega) | omega)
      obtain ⟨c1_1, f1_1⟩ := hb1.row (k := w.heap.size + 1) (by first | assumption | (simp; done) | (simp; omega) | omega)
      go_wp2_with fail
      refine (l6Copy_any nx ao n ca cs _ (hx'.out.ext (by repeat (first | with_reducible exact Ext.refl _ | with_reducible assumption | with_reducible refine Ext.alloc ?_ _ | with_reducible refine Ext.drew ?_ | with_reducible refine Ext.drewN ?_ _ | ((with_reducible refine Ext.set ?_ ?_ _); (focus (first | (simp; done) | (simp; omega)))) | with_reducible refine Ext.trans ?_ (by assumption)))) hn'.out hl).mono ?_
      rintro en w2 ⟨ao2, cap2, rfl, ho2, hb2⟩
      have k2_0 := hb2.more (k := w.heap.size) (by first | assumption | (simp; done) | (simp; omega) | omega)
      obtain ⟨c2_0, f2_0⟩ := hb2.row (k := w.heap.size) (by first | assumption | (simp; done) | (simp; omega) | omega)
      have k2_1 := hb2.more (k := w.heap.size + 1) (by first | assumption | (simp; done) | (simp; omega) | omega)
      obtain ⟨c2_1, f2_1⟩ := hb2.row (k := w.heap.size + 1) (by first | assumption | (simp; done) | (simp; omega) | omega)
      go_wp2
      refine bodyPost_ret (v := .agg #[.int .i64 nx, .slice ao2 cs.length cap2]) (by simp [results, Try.results7, go_sem, *]) rfl ⟨ao2, cap2, rfl, ?_, ?_⟩
      · refine OwnC.mono (OwnC.chg (S := fun k => k < w1.heap.size) ho2 (by repeat (first | with_reducible exact Chg.refl _ _ | with_reducible assumption | with_reducible refine Chg.alloc ?_ _ | with_reducible refine Chg.drew ?_ | ((with_reducible refine Chg.set ?_ ?_ _); (focus (first | (left; simp; done) | (left; simp; omega) | (left; omega)))))) (fun b h1 h2 h3 => by omega)) (by omega) (by simp)
      · exact (by repeat (first | with_reducible exact Ext.refl _ | with_reducible assumption | with_reducible refine Ext.alloc ?_ _ | with_reducible refine Ext.drew ?_ | with_reducible refine Ext.drewN ?_ _ | ((with_reducible refine Ext.set ?_ ?_ _); (focus (first | (simp; done) | (simp; omega)))) | with_reducible refine Ext.trans ?_ (by assumption)))
    · -- no
      by_cases h0 : off < 0
      · -- yes
        have hz0 : 0 < data.size := by rw [empty_size] at he; have := of_decide_eq_false he; omega
        have hC : insC nx cs off data = cs := by rw [insC, if_neg (by simp [insOk]; omega)]
        rw [hC]
        clear hC
        clear hz0
        have hn' := hide hn
        have hx' := hide hx
        have hw' := hide hw
        clear hn hx hw
        go_enter Try.func7, Try.ntmps7
        go_wp2_with fail
        refine (IsBuffer_spec nx ao n ca cs _ (hx'.out.ext (by repeat (first | with_reducible exact Ext.refl _ | with_reducible assumption | with_reducible refine Ext.alloc ?_ _ | with_reducible refine Ext.drew ?_ | with_reducible refine Ext.drewN ?_ _ | ((with_reducible refine Ext.set ?_ ?_ _); (focus (first | (simp; done) | (simp; omega)))) | with_reducible refine Ext.trans ?_ (by assumption)))) hn'.out (by omega) hw'.out).mono ?_
        rintro en w1 ⟨rfl, hb1⟩
        rw [hi]
        have k1_0 := hb1.more (k := w.heap.size) (by first | assumption | (simp; done) | (simp; omega) | omega)
        obtain ⟨c1_0, f1_0⟩ := hb1.row (k := w.heap.size) (by first | assumption | (simp; done) | (simp; omega) | omega)
        have k1_1 := hb1.more (k := w.heap.size + 1) (by first | assumption | (simp; done) | (simp; omega) | omega)
        obtain ⟨c1_1, f1_1⟩ := hb1.row (k := w.heap.size + 1) (by first | assumption | (simp; done) | (simp; omega) | omega)
        go_wp2_with fail
        refine (l6Copy_any nx ao n ca cs _ (hx'.out.ext (by repeat (first | with_reducible exact Ext.refl _ | with_reducible assumption | with_reducible refine Ext.alloc ?_ _ | with_reducible refine Ext.drew ?_ | with_reducible refine Ext.drewN ?_ _ | ((with_reducible refine Ext.set ?_ ?_ _); (focus (first | (simp; done) | (simp; omega)))) | with_reducible refine Ext.trans ?_ (by assumption)))) hn'.out hl).mono ?_
        rintro en w2 ⟨ao2, cap2, rfl, ho2, hb2⟩
        have k2_0 := hb2.more (k := w.heap.size) (by first | assumption | (simp; done) | (simp; omega) | omega)
        obtain ⟨c2_0, f2_0⟩ := hb2.row (k := w.heap.size) (by first | assumption | (simp; done) | (simp; omega) | omega)
        have k2_1 := hb2.more (k := w.heap.size + 1) (by first | assumption | (simp; done) | (simp; omega) | omega)
        obtain ⟨c2_1, f2_1⟩ := hb2.row (k := w.heap.size + 1) (by first | assumption | (simp; done) | (simp; omega) | omega)
        go_wp2
        refine bodyPost_ret (v := .agg #[.int .i64 nx, .slice ao2 cs.length cap2]) (by simp [results, Try.results7, go_sem, *]) rfl ⟨ao2, cap2, rfl, ?_, ?_⟩
        · refine OwnC.mono (OwnC.chg (S := fun k => k < w1.heap.size) ho2 (by repeat (first | with_reducible exact Chg.refl _ _ | with_reducible assumption | with_reducible refine Chg.alloc ?_ _ | with_reducible refine Chg.drew ?_ | ((with_reducible refine Chg.set ?_ ?_ _); (focus (first | (left; simp; done) | (left; simp; omega) | (left; omega)))))) (fun b h1 h2 h3 => by omega)) (by omega) (by simp)
        · exact (by repeat (first | with_reducible exact Ext.refl _ | with_reducible assumption | with_reducible refine Ext.alloc ?_ _ | with_reducible refine Ext.drew ?_ | with_reducible refine Ext.drewN ?_ _ | ((with_reducible refine Ext.set ?_ ?_ _); (focus (first | (simp; done) | (simp; omega)))) | with_reducible refine Ext.trans ?_ (by assumption)))
      · -- no
        have h0x : ¬ (off < 0) := h0
        have h0d : decide (off < 0) = false := decide_eq_false h0x
        replace h0 : 0 ≤ off := by omega
        by_cases h1 : 4611686018427387903 - (data.size : Int) < off
        · -- yes
          have hz0 : 0 < data.size := by rw [empty_size] at he; have := of_decide_eq_false he; omega
          have wr1 : IntKind.i64.wrap (4611686018427387903 - (data.size : Int)) = 4611686018427387903 - (data.size : Int) := IntWalk.i64_in _ (by omega)
          have hC : insC nx cs off data = cs := by rw [insC, if_neg (by simp [insOk]; omega)]
          rw [hC]
          clear hC
          clear hz0
          have hn' := hide hn
          have hx' := hide hx
          have hw' := hide hw
          clear hn hx hw
          go_enter Try.func7, Try.ntmps7
          go_wp2_with fail
          refine (IsBuffer_spec nx ao n ca cs _ (hx'.out.ext (by repeat (first | with_reducible exact Ext.refl _ | with_reducible assumption | with_reducible refine Ext.alloc ?_ _ | with_reducible refine Ext.drew ?_ | with_reducible refine Ext.drewN ?_ _ | ((with_reducible refine Ext.set ?_ ?_ _); (focus (first | (simp; done) | (simp; omega)))) | with_reducible refine Ext.trans ?_ (by assumption)))) hn'.out (by omega) hw'.out).mono ?_
          rintro en w1 ⟨rfl, hb1⟩
          rw [hi]
          have k1_0 := hb1.more (k := w.heap.size) (by first | assumption | (simp; done) | (simp; omega) | omega)
          obtain ⟨c1_0, f1_0⟩ := hb1.row (k := w.heap.size) (by first | assumption | (simp; done) | (simp; omega) | omega)
          have k1_1 := hb1.more (k := w.heap.size + 1) (by first | assumption | (simp; done) | (simp; omega) | omega)
          obtain ⟨c1_1, f1_1⟩ := hb1.row (k := w.heap.size + 1) (by first | assumption | (simp; done) | (simp; omega) | omega)
          go_wp2_with fail
          refine (l6Copy_any nx ao n ca cs _ (hx'.out.ext (by repeat (first | with_reducible exact Ext.refl _ | with_reducible assumption | with_reducible refine Ext.alloc ?_ _ | with_reducible refine Ext.drew ?_ | with_reducible refine Ext.drewN ?_ _ | ((with_reducible refine Ext.set ?_ ?_ _); (focus (first | (simp; done) | (simp; omega)))) | with_reducible refine Ext.trans ?_ (by assumption)))) hn'.out hl).mono ?_
          rintro en w2 ⟨ao2, cap2, rfl, ho2, hb2⟩
          have k2_0 := hb2.more (k := w.heap.size) (by first | assumption | (simp; done) | (simp; omega) | omega)
          obtain ⟨c2_0, f2_0⟩ := hb2.row (k := w.heap.size) (by first | assumption | (simp; done) | (simp; omega) | omega)
          have k2_1 := hb2.more (k := w.heap.size + 1) (by first | assumption | (simp; done) | (simp; omega) | omega)
          obtain ⟨c2_1, f2_1⟩ := hb2.row (k := w.heap.size + 1) (by first | assumption | (simp; done) | (simp; omega) | omega)
          go_wp2
          refine bodyPost_ret (v := .agg #[.int .i64 nx, .slice ao2 cs.length cap2]) (by simp [results, Try.results7, go_sem, *]) rfl ⟨ao2, cap2, rfl, ?_, ?_⟩
          · refine OwnC.mono (OwnC.chg (S := fun k => k < w1.heap.size) ho2 (by repeat (first | with_reducible exact Chg.refl _ _ | with_reducible assumption | with_reducible refine Chg.alloc ?_ _ | with_reducible refine Chg.drew ?_ | ((with_reducible refine Chg.set ?_ ?_ _); (focus (first | (left; simp; done) | (left; simp; omega) | (left; omega)))))) (fun b h1 h2 h3 => by omega)) (by omega) (by simp)
          · exact (by repeat (first | with_reducible exact Ext.refl _ | with_reducible assumption | with_reducible refine Ext.alloc ?_ _ | with_reducible refine Ext.drew ?_ | with_reducible refine Ext.drewN ?_ _ | ((with_reducible refine Ext.set ?_ ?_ _); (focus (first | (simp; done) | (simp; omega)))) | with_reducible refine Ext.trans ?_ (by assumption)))
        · -- no
          have h1x : ¬ (4611686018427387903 - (data.size : Int) < off) := h1
          have h1d : decide (4611686018427387903 - (data.size : Int) < off) = false := decide_eq_false h1x
          replace h1 : off ≤ 4611686018427387903 - (data.size : Int) := by omega
          by_cases h2 : off + (data.size : Int) ≤ nx
          · -- yes
            have hz0 : 0 < data.size := by rw [empty_size] at he; have := of_decide_eq_false he; omega
            have wr1 : IntKind.i64.wrap (4611686018427387903 - (data.size : Int)) = 4611686018427387903 - (data.size : Int) := IntWalk.i64_in _ (by omega)
            have wr2 : IntKind.i64.wrap (off + (data.size : Int)) = off + (data.size : Int) := IntWalk.i64_in _ (by omega)
            have hC : insC nx cs off data = cs := by rw [insC, if_neg (by simp [insOk]; omega)]
            rw [hC]
            clear hC
            clear hz0
            have hge : decide (off + (data.size : Int) ≤ max off nx) = true := decide_eq_true (by omega)
            have hn' := hide hn
            have hx' := hide hx
            have hw' := hide hw
            clear hn hx hw
            go_enter Try.func7, Try.ntmps7
            go_wp2_with fail
            refine (IsBuffer_spec nx ao n ca cs _ (hx'.out.ext (by repeat (first | with_reducible exact Ext.refl _ | with_reducible assumption | with_reducible refine Ext.alloc ?_ _ | with_reducible refine Ext.drew ?_ | with_reducible refine Ext.drewN ?_ _ | ((with_reducible refine Ext.set ?_ ?_ _); (focus (first | (simp; done) | (simp; omega)))) | with_reducible refine Ext.trans ?_ (by assumption)))) hn'.out (by omega) hw'.out).mono ?_
            rintro en w1 ⟨rfl, hb1⟩
            rw [hi]
            have k1_0 := hb1.more (k := w.heap.size) (by first | assumption | (simp; done) | (simp; omega) | omega)
            obtain ⟨c1_0, f1_0⟩ := hb1.row (k := w.heap.size) (by first | assumption | (simp; done) | (simp; omega) | omega)
            have k1_1 := hb1.more (k := w.heap.size + 1) (by first | assumption | (simp; done) | (simp; omega) | omega)
            obtain ⟨c1_1, f1_1⟩ := hb1.row (k := w.heap.size + 1) (by first | assumption | (simp; done) | (simp; omega) | omega)
            go_wp2_with fail
            refine (l6Copy_any nx ao n ca cs _ (hx'.out.ext (by repeat (first | with_reducible exact Ext.refl _ | with_reducible assumption | with_reducible refine Ext.alloc ?_ _ | with_reducible refine Ext.drew ?_ | with_reducible refine Ext.drewN ?_ _ | ((with_reducible refine Ext.set ?_ ?_ _); (focus (first | (simp; done) | (simp; omega)))) | with_reducible refine Ext.trans ?_ (by assumption)))) hn'.out hl).mono ?_
            rintro en w2 ⟨ao2, cap2, rfl, ho2, hb2⟩
            have k2_0 := hb2.more (k := w.heap.size) (by first | assumption | (simp; done) | (simp; omega) | omega)
            obtain ⟨c2_0, f2_0⟩ := hb2.row (k := w.heap.size) (by first | assumption | (simp; done) | (simp; omega) | omega)
            have k2_1 := hb2.more (k := w.heap.size + 1) (by first | assumption | (simp; done) | (simp; omega) | omega)
            obtain ⟨c2_1, f2_1⟩ := hb2.row (k := w.heap.size + 1) (by first | assumption | (simp; done) | (simp; omega) | omega)
            go_wp2
            refine bodyPost_ret (v := .agg #[.int .i64 nx, .slice ao2 cs.length cap2]) (by simp [results, Try.results7, go_sem, *]) rfl ⟨ao2, cap2, rfl, ?_, ?_⟩
            · refine OwnC.mono (OwnC.chg (S := fun k => k < w1.heap.size) ho2 (by repeat (first | with_reducible exact Chg.refl _ _ | with_reducible assumption | with_reducible refine Chg.alloc ?_ _ | with_reducible refine Chg.drew ?_ | ((with_reducible refine Chg.set ?_ ?_ _); (focus (first | (left; simp; done) | (left; simp; omega) | (left; omega)))))) (fun b h1 h2 h3 => by omega)) (by omega) (by simp)
            · exact (by repeat (first | with_reducible exact Ext.refl _ | with_reducible assumption | with_reducible refine Ext.alloc ?_ _ | with_reducible refine Ext.drew ?_ | with_reducible refine Ext.drewN ?_ _ | ((with_reducible refine Ext.set ?_ ?_ _); (focus (first | (simp; done) | (simp; omega)))) | with_reducible refine Ext.trans ?_ (by assumption)))
          · -- no
            have h2x : ¬ (off + (data.size : Int) ≤ nx) := h2
            have h2d : decide (off + (data.size : Int) ≤ nx) = false := decide_eq_false h2x
            replace h2 : nx < off + (data.size : Int) := by omega
            have hz0 : 0 < data.size := by rw [empty_size] at he; have := of_decide_eq_false he; omega
            have wr1 : IntKind.i64.wrap (4611686018427387903 - (data.size : Int)) = 4611686018427387903 - (data.size : Int) := IntWalk.i64_in _ (by omega)
            have wr2 : IntKind.i64.wrap (off + (data.size : Int)) = off + (data.size : Int) := IntWalk.i64_in _ (by omega)
            have hok : insOk nx cs off data = true := by
              simp only [insOk, hi, Bool.true_and, Bool.and_eq_true, decide_eq_true_eq]
              omega
            have hC : insC nx cs off data = insS nx cs off data := by
              rw [insC, if_pos hok]
              exact ins_same (isBuf_canon hi) (by omega)
            rw [hC]
            exact InsertDataS_yes nx off data ao n ca cs w hx hn hl hw hoff hds hok
  · -- no
    have hC : insC nx cs off data = cs := by rw [insC, if_neg (by simp [insOk, hi])]
    rw [hC]
    clear hC
    have hn' := hide hn
    have hx' := hide hx
    have hw' := hide hw
    clear hn hx hw
    go_enter Try.func7, Try.ntmps7
    go_wp2_with fail
    refine (IsBuffer_spec nx ao n ca cs _ (hx'.out.ext (by repeat (first | with_reducible exact Ext.refl _ | with_reducible assumption | with_reducible refine Ext.alloc ?_ _ | with_reducible refine Ext.drew ?_ | with_reducible refine Ext.drewN ?_ _ | ((with_reducible refine Ext.set ?_ ?_ _); (focus (first | (simp; done) | (simp; omega)))) | with_reducible refine Ext.trans ?_ (by assumption)))) hn'.out (by omega) hw'.out).mono ?_
    rintro en w1 ⟨rfl, hb1⟩
    rw [hi]
    have k1_0 := hb1.more (k := w.heap.size) (by first | assumption | (simp; done) | (simp; omega) | omega)
    obtain ⟨c1_0, f1_0⟩ := hb1.row (k := w.heap.size) (by first | assumption | (simp; done) | (simp; omega) | omega)
    have k1_1 := hb1.more (k := w.heap.size + 1) (by first | assumption | (simp; done) | (simp; omega) | omega)
    obtain ⟨c1_1, f1_1⟩ := hb1.row (k := w.heap.size + 1) (by first | assumption | (simp; done) | (simp; omega) | omega)
    go_wp2_with fail
    refine (l6Copy_any nx ao n ca cs _ (hx'.out.ext (by repeat (first | with_reducible exact Ext.refl _ | with_reducible assumption | with_reducible refine Ext.alloc ?_ _ | with_reducible refine Ext.drew ?_ | with_reducible refine Ext.drewN ?_ _ | ((with_reducible refine Ext.set ?_ ?_ _); (focus (first | (simp; done) | (simp; omega)))) | with_reducible refine Ext.trans ?_ (by assumption)))) hn'.out hl).mono ?_
    rintro en w2 ⟨ao2, cap2, rfl, ho2, hb2⟩
    have k2_0 := hb2.more (k := w.heap.size) (by first | assumption | (simp; done) | (simp; omega) | omega)
    obtain ⟨c2_0, f2_0⟩ := hb2.row (k := w.heap.size) (by first | assumption | (simp; done) | (simp; omega) | omega)
    have k2_1 := hb2.more (k := w.heap.size + 1) (by first | assumption | (simp; done) | (simp; omega) | omega)
    obtain ⟨c2_1, f2_1⟩ := hb2.row (k := w.heap.size + 1) (by first | assumption | (simp; done) | (simp; omega) | omega)
    go_wp2
    refine bodyPost_ret (v := .agg #[.int .i64 nx, .slice ao2 cs.length cap2]) (by simp [results, Try.results7, go_sem, *]) rfl ⟨ao2, cap2, rfl, ?_, ?_⟩
    · refine OwnC.mono (OwnC.chg (S := fun k => k < w1.heap.size) ho2 (by repeat (first | with_reducible exact Chg.refl _ _ | with_reducible assumption | with_reducible refine Chg.alloc ?_ _ | with_reducible refine Chg.drew ?_ | ((with_reducible refine Chg.set ?_ ?_ _); (focus (first | (left; simp; done) | (left; simp; omega) | (left; omega)))))) (fun b h1 h2 h3 => by omega)) (by omega) (by simp)
    · exact (by repeat (first | with_reducible exact Ext.refl _ | with_reducible assumption | with_reducible refine Ext.alloc ?_ _ | with_reducible refine Ext.drew ?_ | with_reducible refine Ext.drewN ?_ _ | ((with_reducible refine Ext.set ?_ ?_ _); (focus (first | (simp; done) | (simp; omega)))) | with_reducible refine Ext.trans ?_ (by assumption)))
end Go.Proofs.Ytjnbiacnhimkgaa
