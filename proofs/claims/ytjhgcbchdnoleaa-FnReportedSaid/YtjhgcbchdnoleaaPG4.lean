/-
  Part of the proof: Rg, RgS, RgL, Snd, RgI.
-/
import Derived.Deep.QuietTactic
import Derived.BigQuiet
import Derived.LoopTactic
import Derived.Deep.OwnRows
import Derived.Deep.AppendLies
import Derived.Test.YtjhgcbchdnoleaaPG2
namespace Go.Proofs.Ytjhgcbchdnoleaa
section
open Go.ChangeShapes Go.WideShapes Go.ChangeAt Go.RowKit
set_option linter.unusedSimpArgs false
set_option linter.unusedVariables false
/-- The ranges behind a slice's address can be read. -/
def ReadR (w : World) (ao : Option Addr) (rs : List Rg) : Prop :=
  rs = [] ∨ ∃ b off : Nat, ao = some ⟨b, off, none⟩ ∧ ∀ j : Nat, j < rs.length → w.cell? ⟨b, off + j * 2, none⟩ = some (.int .i64 (rs.getD j dr).1) ∧ w.cell? ⟨b, off + j * 2 + 1, none⟩ = some (.int .i64 (rs.getD j dr).2)
def OwnR (lo hi : Nat) (w : World) (ao : Option Addr) (rs : List Rg) : Prop :=
  rs = [] ∨ ∃ b off : Nat, ao = some ⟨b, off, none⟩ ∧ lo ≤ b ∧ b < hi ∧ (∀ o, w.frozen? ⟨b, o, none⟩ = false) ∧ ∀ j : Nat, j < rs.length → w.cell? ⟨b, off + j * 2, none⟩ = some (.int .i64 (rs.getD j dr).1) ∧ w.cell? ⟨b, off + j * 2 + 1, none⟩ = some (.int .i64 (rs.getD j dr).2)
theorem OwnR.read {lo hi : Nat} {w : World} {ao : Option Addr} {rs : List Rg} (h : OwnR lo hi w ao rs) : ReadR w ao rs := by
  rcases h with h | ⟨b, off, h1, _, _, _, h2⟩
  · exact Or.inl h
  · exact Or.inr ⟨b, off, h1, h2⟩
theorem ReadR.ext {w w' : World} {ao : Option Addr} {rs : List Rg} (h : ReadR w ao rs) (hx : Ext w w') : ReadR w' ao rs := by
  rcases h with h | ⟨b, off, h1, h2⟩
  · exact Or.inl h
  · refine Or.inr ⟨b, off, h1, fun j hj => ?_⟩
    obtain ⟨k1, k2⟩ := h2 j hj
    have hr := (hx.row (World.block_lt_of_cell? w _ k1)).1
    exact ⟨(hr _).trans k1, (hr _).trans k2⟩
theorem OwnR.chg {lo hi : Nat} {S : Nat → Prop} {w w' : World} {ao : Option Addr} {rs : List Rg} (h : OwnR lo hi w ao rs) (hx : Chg S w w') (hS : ∀ b, lo ≤ b → b < hi → ¬ S b) : OwnR lo hi w' ao rs := by
  rcases h with h | ⟨b, off, h1, h2, h3, h4, h5⟩
  · exact Or.inl h
  · rcases rs with _ | ⟨c, rs⟩
    · exact Or.inl rfl
    · have hb := World.block_lt_of_cell? w _ (h5 0 (by simp)).1
      have hr := hx.row hb (hS b h2 h3)
      refine Or.inr ⟨b, off, h1, h2, h3, fun o => (hr.2 o).trans (h4 o), fun j hj => ?_⟩
      obtain ⟨k1, k2⟩ := h5 j hj
      exact ⟨(hr.1 _).trans k1, (hr.1 _).trans k2⟩
theorem OwnR.mono {lo hi lo' hi' : Nat} {w : World} {ao : Option Addr} {rs : List Rg} (h : OwnR lo hi w ao rs) (h1 : lo' ≤ lo) (h2 : hi ≤ hi') : OwnR lo' hi' w ao rs := by
  rcases h with h | ⟨b, off, k1, k2, k3, k4, k5⟩
  · exact Or.inl h
  · exact Or.inr ⟨b, off, k1, Nat.le_trans h1 k2, Nat.lt_of_lt_of_le k3 h2, k4, k5⟩
/-- The cells of ranges. -/
def rgCells (rs : List Rg) : List Value := rs.flatMap fun r => [.int .i64 r.1, .int .i64 r.2]
theorem rgCells_length : ∀ rs : List Rg, (rgCells rs).length = rs.length * 2
  | [] => rfl
  | r :: rs => by
    have := rgCells_length rs
    simp only [rgCells, List.flatMap_cons, List.length_append, List.length_cons, List.length_nil] at *
    omega
theorem rgCells_at : ∀ (rs : List Rg) (j : Nat), j < rs.length → (rgCells rs)[j * 2]? = some (.int .i64 (rs.getD j dr).1) ∧ (rgCells rs)[j * 2 + 1]? = some (.int .i64 (rs.getD j dr).2)
  | [], _, h => absurd h (by simp)
  | r :: rs, 0, _ => ⟨rfl, rfl⟩
  | r :: rs, j + 1, h => by
    have := rgCells_at rs j (by simpa using h)
    have e : (j + 1) * 2 = j * 2 + 2 := by omega
    rw [e]
    exact this
theorem rgCells_one (rs : List Rg) : ∀ u ∈ rgCells rs, u.oneCell' = true := by
  intro u hu
  simp only [rgCells, List.mem_flatMap] at hu
  obtain ⟨r, _, hu⟩ := hu
  simp only [List.mem_cons, List.not_mem_nil, or_false] at hu
  rcases hu with rfl | rfl <;> rfl
theorem rgCells_app (ls : List Rg) (r : Rg) : rgCells ls ++ [.int .i64 r.1, .int .i64 r.2] = rgCells (ls ++ [r]) := by
  simp [rgCells]
theorem ReadR.v {w : World} {ao : Option Addr} {rs : List Rg} (h : ReadR w ao rs) : ReadV w ao (rgCells rs) := by
  rcases h with rfl | ⟨b, off, h1, h2⟩
  · exact Or.inl rfl
  · refine Or.inr ⟨b, off, h1, fun j u hu => ?_⟩
    have hlt : j < (rgCells rs).length := by
      rcases Nat.lt_or_ge j (rgCells rs).length with h | h
      · exact h
      · rw [List.getElem?_eq_none h] at hu; cases hu
    rw [rgCells_length] at hlt
    have hk : j / 2 < rs.length := by omega
    obtain ⟨a1, a2⟩ := rgCells_at rs (j / 2) hk
    obtain ⟨b1, b2⟩ := h2 (j / 2) hk
    rcases Nat.mod_two_eq_zero_or_one j with h0 | h0
    · have e : j / 2 * 2 = j := by omega
      rw [e] at a1 b1
      rw [hu] at a1
      rw [b1, Option.some.inj a1]
    · have e : j / 2 * 2 + 1 = j := by omega
      rw [e] at a2
      rw [Nat.add_assoc, e] at b2
      rw [hu] at a2
      rw [b2, Option.some.inj a2]
/-- A row of ranges of the call's own. -/
theorem own_ranges {w : World} {base : Nat} {e : TypeId} {v : Value} {n : Nat} {rs : List Rg} (h : w.ownsRow base e 2 v n (rgCells rs)) :
    ∃ (ao : Option Addr) (cap : Nat), v = .slice ao rs.length cap ∧ rs.length = n ∧ OwnR base w.heap.size w ao rs := by
  obtain ⟨hl, ⟨rfl, rfl⟩ | ⟨g, cap, cur, rfl, hb, hblk, hle, _, hsz, htake⟩⟩ := h
  · have hx : rs = [] := by
      rw [rgCells_length] at hl
      exact List.eq_nil_of_length_eq_zero (by omega)
    subst hx
    exact ⟨none, 0, rfl, rfl, Or.inl rfl⟩
  · have hl' : rs.length = n := by rw [rgCells_length] at hl; omega
    refine ⟨some ⟨g, 0, none⟩, cap, by rw [hl'], hl', Or.inr ⟨g, 0, rfl, hb, lt_of_block hblk, fun o => by simp [World.frozen?, hblk], fun j hj => ?_⟩⟩
    obtain ⟨k1, k2⟩ := rgCells_at rs j hj
    have h1 := congrArg (fun l => l[j * 2]?) htake
    have h2 := congrArg (fun l => l[j * 2 + 1]?) htake
    simp only [List.getElem?_take, (by omega : j * 2 < n * 2), (by omega : j * 2 + 1 < n * 2), if_true] at h1 h2
    constructor
    · rw [Nat.zero_add, cell_of_row w g (j * 2) cur _ _ hblk, ← Array.getElem?_toList, h1]; exact k1
    · rw [Nat.zero_add, cell_of_row w g (j * 2 + 1) cur _ _ hblk, ← Array.getElem?_toList, h2]; exact k2
end
section
open Go.ChangeShapes Go.WideShapes Go.ChangeAt Go.RowKit
set_option linter.unusedSimpArgs false
set_option linter.unusedVariables false
/-- From where on the range with number k may lie. -/
def loR (rs : List Rg) (k : Nat) : Int := if k = 0 then 0 else (rs.getD (k - 1) dr).2 + 1
theorem dropR_cons (rs : List Rg) {k : Nat} (hk : k < rs.length) : rs.drop k = rs.getD k dr :: rs.drop (k + 1) := by
  rw [List.drop_eq_getElem_cons hk]; simp [List.getD, List.getElem?_eq_getElem hk]
theorem loR_succ (rs : List Rg) (k : Nat) : loR rs (k + 1) = (rs.getD k dr).2 + 1 := by simp [loR]
theorem infoRange : (Try.prog.info? 61).map (fun i => (i.zero, i.size, i.bytes)) = some (some (.agg #[.int .i64 0, .int .i64 0]), 2, 16) := by kernel_rfl
/-- A new slice that holds rs. -/
def NewR (rs : List Rg) (w : World) (e : Ending) (w' : World) : Prop :=
  ∃ (ao : Option Addr) (cap : Nat), e = .returned (.slice ao rs.length cap) ∧ OwnR w.heap.size w'.heap.size w' ao rs ∧ Ext w w'
set_option maxHeartbeats 1000000 in
theorem fine_spec (a b : Int) (w : World) : Calls Try.prog 124 #[.agg #[.int .i64 a, .int .i64 b]] w fun e w' => e = .returned (.bool (rgFine (a, b))) ∧ Ext w w' := by
  by_cases h0 : 0 ≤ a
  · -- yes
    by_cases h1 : a < b
    · -- yes
      by_cases h2 : b ≤ 4611686018427387903
      · -- yes
        go_enter Try.func124, Try.ntmps124
        go_wp2
        go_ret
        exact ⟨(by first | (simp [rgFine, *]; done) | (simp [rgFine, *]; omega) | (simp [rgFine, *]; split <;> first | (exfalso; omega) | (simp; done) | (simp; omega))), (by repeat (first | with_reducible exact Ext.refl _ | with_reducible assumption | with_reducible refine Ext.alloc ?_ _ | with_reducible refine Ext.drew ?_ | with_reducible refine Ext.drewN ?_ _ | ((with_reducible refine Ext.set ?_ ?_ _); (focus (first | (simp; done) | (simp; omega)))) | with_reducible refine Ext.trans ?_ (by assumption)))⟩
      · -- no
        have h2x : ¬ (b ≤ 4611686018427387903) := h2
        have h2d : decide (b ≤ 4611686018427387903) = false := decide_eq_false h2x
        replace h2 : 4611686018427387903 < b := by omega
        go_enter Try.func124, Try.ntmps124
        go_wp2
        go_ret
        exact ⟨(by first | (simp [rgFine, *]; done) | (simp [rgFine, *]; omega) | (simp [rgFine, *]; split <;> first | (exfalso; omega) | (simp; done) | (simp; omega))), (by repeat (first | with_reducible exact Ext.refl _ | with_reducible assumption | with_reducible refine Ext.alloc ?_ _ | with_reducible refine Ext.drew ?_ | with_reducible refine Ext.drewN ?_ _ | ((with_reducible refine Ext.set ?_ ?_ _); (focus (first | (simp; done) | (simp; omega)))) | with_reducible refine Ext.trans ?_ (by assumption)))⟩
    · -- no
      have h1x : ¬ (a < b) := h1
      have h1d : decide (a < b) = false := decide_eq_false h1x
      replace h1 : b ≤ a := by omega
      go_enter Try.func124, Try.ntmps124
      go_wp2
      go_ret
      exact ⟨(by first | (simp [rgFine, *]; done) | (simp [rgFine, *]; omega) | (simp [rgFine, *]; split <;> first | (exfalso; omega) | (simp; done) | (simp; omega))), (by repeat (first | with_reducible exact Ext.refl _ | with_reducible assumption | with_reducible refine Ext.alloc ?_ _ | with_reducible refine Ext.drew ?_ | with_reducible refine Ext.drewN ?_ _ | ((with_reducible refine Ext.set ?_ ?_ _); (focus (first | (simp; done) | (simp; omega)))) | with_reducible refine Ext.trans ?_ (by assumption)))⟩
  · -- no
    have h0x : ¬ (0 ≤ a) := h0
    have h0d : decide (0 ≤ a) = false := decide_eq_false h0x
    replace h0 : a < 0 := by omega
    go_enter Try.func124, Try.ntmps124
    go_wp2
    go_ret
    exact ⟨(by first | (simp [rgFine, *]; done) | (simp [rgFine, *]; omega) | (simp [rgFine, *]; split <;> first | (exfalso; omega) | (simp; done) | (simp; omega))), (by repeat (first | with_reducible exact Ext.refl _ | with_reducible assumption | with_reducible refine Ext.alloc ?_ _ | with_reducible refine Ext.drew ?_ | with_reducible refine Ext.drewN ?_ _ | ((with_reducible refine Ext.set ?_ ?_ _); (focus (first | (simp; done) | (simp; omega)))) | with_reducible refine Ext.trans ?_ (by assumption)))⟩
set_option maxHeartbeats 2000000 in
set_option maxRecDepth 100000 in
theorem IsRanges_spec (ao : Option Addr) (n ca : Nat) (rs : List Rg) (w : World) (hx : ReadR w ao rs) (hn : rs.length = n) (hl : (n : Int) ≤ 9223372036854775807) :
    Calls Try.prog 81 #[.slice ao n ca] w fun e w' => e = .returned (.bool (isRgs rs)) ∧ Ext w w' := by
  have hn' := hide hn
  have hx' := hide hx
  clear hn hx
  go_enter Try.func81, Try.ntmps81
  go_wp2_with fail
  go_loopw [3] (fun i wr => ∃ (k : Nat), i = .int .i64 k ∧ k ≤ n ∧ isRgs rs = rgsFrom (loR rs k) (rs.drop k) ∧ Ext w wr) (fun i _ => n - (intOf i).toNat)
  case atStart => exact ⟨0, rfl, by omega, rfl, Ext.refl _⟩
  case round =>
    obtain ⟨k, rfl, hk, hb, hg⟩ := hrel
    have hb' := hide hb
    clear hb
    by_cases hlt : k < n
    · have hkx : k < rs.length := by rw [hn'.out]; exact hlt
      rcases hx'.out with hnil | ⟨bx, off, rfl, hx⟩
      · rw [hnil] at hkx; simp at hkx
      obtain ⟨cx, cx2⟩ := hx k hkx
      have la : bx < w.heap.size := World.block_lt_of_cell? w _ cx
      have hr := (hg.row la).1
      have dx := (hr _).trans cx
      have dx2 := (hr _).trans cx2
      have i1 : (0 : Int) ≤ (k : Int) := by omega
      have i2 : (k : Int) < (n : Int) := by omega
      have lw : bx < wr.heap.size := hg.more la
      rw [dropR_cons rs hkx] at hb'
      clear cx cx2
      have hls := hide (loR_succ rs k)
      by_cases hk0 : k = 0
      · have e1 : decide (0 < k) = false := by simp; omega
        have hlz : loR rs k = 0 := by rw [hk0]; rfl
        rw [hlz] at hb'
        clear hx hr hk0 hlz
        generalize rs.getD k dr = x at *
        obtain ⟨a, b⟩ := x
        dsimp only at *
        rcases Bool.eq_false_or_eq_true (rgFine (a, b)) with hf | hf
        · have hbd := rgFine_bd hf
          have hbn : Hid (isRgs rs = rgsFrom (loR rs (k + 1)) (rs.drop (k + 1))) := hide (by rw [hb'.out, hls.out]; simp [rgsFrom, hf]; omega)
          clear hb' hls hbd
          go_wp2_with fail
          refine wp_region_seq (Ext _) (by kernel_rfl) (by kernel_rfl) ((Ext.refl _).drew) ?_
          iterate 24 (((first | (refine wpSeqS_off rfl (by rfl) ?_) | (refine wpSeqS_plain (v := ?_) rfl (by rfl) ?_ ?_; rotate_left; (focus (intro ws hws; obtain ⟨q0, p0⟩ := hws.row (k := bx) (by first | assumption | (simp; done) | (simp; omega) | omega); go_simp; (try with_reducible rfl); done))) | (refine wpSeqS_call (v := ?_) 124 ?_ rfl (by rfl) ?_ ?_ ?_; rotate_left; rotate_left; (focus (intro ws hws; skip; go_simp; (try with_reducible rfl); done)); (focus (intro ws hws; refine (fine_spec a b _).mono ?_; rintro e w' ⟨rfl, h2⟩; refine ⟨?_, hws.trans h2⟩; (try simp only [*]); (try with_reducible rfl); done))) | fail)); (try simp only [Act.put, List.getElem_toArray, List.getElem_cons_zero, List.getElem_cons_succ, List.setIfInBounds_toArray, List.set_cons_zero, List.set_cons_succ]))
          refine wpSeqS_done (by kernel_rfl) (fun ws hws => ?_)
          go_wp2
          go_roundw
          case rel => exact ⟨k + 1, by go_num, by omega, hbn.out, hg.trans hws⟩
          case measure => simp [intOf]; omega
        · have hbn : Hid (isRgs rs = false) := hide (by rw [hb'.out]; simp [rgsFrom, hf])
          clear hb' hls
          go_wp2_with fail
          refine wp_region_seq (Ext _) (by kernel_rfl) (by kernel_rfl) ((Ext.refl _).drew) ?_
          iterate 24 (((first | (refine wpSeqS_off rfl (by rfl) ?_) | (refine wpSeqS_plain (v := ?_) rfl (by rfl) ?_ ?_; rotate_left; (focus (intro ws hws; obtain ⟨q0, p0⟩ := hws.row (k := bx) (by first | assumption | (simp; done) | (simp; omega) | omega); go_simp; (try with_reducible rfl); done))) | (refine wpSeqS_call (v := ?_) 124 ?_ rfl (by rfl) ?_ ?_ ?_; rotate_left; rotate_left; (focus (intro ws hws; skip; go_simp; (try with_reducible rfl); done)); (focus (intro ws hws; refine (fine_spec a b _).mono ?_; rintro e w' ⟨rfl, h2⟩; refine ⟨?_, hws.trans h2⟩; (try simp only [*]); (try with_reducible rfl); done))) | fail)); (try simp only [Act.put, List.getElem_toArray, List.getElem_cons_zero, List.getElem_cons_succ, List.setIfInBounds_toArray, List.set_cons_zero, List.set_cons_succ]))
          refine wpSeqS_done (by kernel_rfl) (fun ws hws => ?_)
          go_wp2
          go_ret
          exact ⟨by rw [hbn.out]; rfl, hg.trans hws⟩
      · have e1 : decide (0 < k) = true := by simp; omega
        obtain ⟨p, hp⟩ : ∃ p : Nat, p + 1 = k := ⟨k - 1, by omega⟩
        have hlz : loR rs k = (rs.getD p dr).2 + 1 := by rw [← hp, loR_succ]
        rw [hlz] at hb'
        obtain ⟨cy, cy2⟩ := hx p (by omega)
        have dy2 := (hr _).trans cy2
        have p1 : IntKind.i64.wrap ((k : Int) - 1) = (p : Int) := by
          rw [show ((k : Int) - 1) = (p : Int) from by omega]
          exact IntWalk.i64_in _ (by omega)
        have p2 : (0 : Int) ≤ (p : Int) := by omega
        have p3 : (p : Int) < (n : Int) := by omega
        clear hx hr cy cy2 hp hk0 hlz
        generalize rs.getD k dr = x at *
        generalize rs.getD p dr = y at *
        obtain ⟨a, b⟩ := x
        obtain ⟨c, d⟩ := y
        dsimp only at *
        rcases Bool.eq_false_or_eq_true (rgFine (a, b)) with hf | hf
        · by_cases hd : d < a
          · have e2 : decide (a ≤ d) = false := by simp; omega
            have hbn : Hid (isRgs rs = rgsFrom (loR rs (k + 1)) (rs.drop (k + 1))) := hide (by rw [hb'.out, hls.out]; simp [rgsFrom, hf]; omega)
            clear hb' hls hd
            go_wp2_with fail
            refine wp_region_seq (Ext _) (by kernel_rfl) (by kernel_rfl) ((Ext.refl _).drew) ?_
            iterate 24 (((first | (refine wpSeqS_off rfl (by rfl) ?_) | (refine wpSeqS_plain (v := ?_) rfl (by rfl) ?_ ?_; rotate_left; (focus (intro ws hws; obtain ⟨q0, p0⟩ := hws.row (k := bx) (by first | assumption | (simp; done) | (simp; omega) | omega); go_simp; (try with_reducible rfl); done))) | (refine wpSeqS_call (v := ?_) 124 ?_ rfl (by rfl) ?_ ?_ ?_; rotate_left; rotate_left; (focus (intro ws hws; skip; go_simp; (try with_reducible rfl); done)); (focus (intro ws hws; refine (fine_spec a b _).mono ?_; rintro e w' ⟨rfl, h2⟩; refine ⟨?_, hws.trans h2⟩; (try simp only [*]); (try with_reducible rfl); done))) | fail)); (try simp only [Act.put, List.getElem_toArray, List.getElem_cons_zero, List.getElem_cons_succ, List.setIfInBounds_toArray, List.set_cons_zero, List.set_cons_succ]))
            refine wpSeqS_done (by kernel_rfl) (fun ws hws => ?_)
            go_wp2
            go_roundw
            case rel => exact ⟨k + 1, by go_num, by omega, hbn.out, hg.trans hws⟩
            case measure => simp [intOf]; omega
          · have e2 : decide (a ≤ d) = true := by simp; omega
            have hbn : Hid (isRgs rs = false) := hide (by rw [hb'.out]; simp [rgsFrom, hf]; omega)
            clear hb' hls hd
            go_wp2_with fail
            refine wp_region_seq (Ext _) (by kernel_rfl) (by kernel_rfl) ((Ext.refl _).drew) ?_
            iterate 24 (((first | (refine wpSeqS_off rfl (by rfl) ?_) | (refine wpSeqS_plain (v := ?_) rfl (by rfl) ?_ ?_; rotate_left; (focus (intro ws hws; obtain ⟨q0, p0⟩ := hws.row (k := bx) (by first | assumption | (simp; done) | (simp; omega) | omega); go_simp; (try with_reducible rfl); done))) | (refine wpSeqS_call (v := ?_) 124 ?_ rfl (by rfl) ?_ ?_ ?_; rotate_left; rotate_left; (focus (intro ws hws; skip; go_simp; (try with_reducible rfl); done)); (focus (intro ws hws; refine (fine_spec a b _).mono ?_; rintro e w' ⟨rfl, h2⟩; refine ⟨?_, hws.trans h2⟩; (try simp only [*]); (try with_reducible rfl); done))) | fail)); (try simp only [Act.put, List.getElem_toArray, List.getElem_cons_zero, List.getElem_cons_succ, List.setIfInBounds_toArray, List.set_cons_zero, List.set_cons_succ]))
            refine wpSeqS_done (by kernel_rfl) (fun ws hws => ?_)
            go_wp2
            go_ret
            exact ⟨by rw [hbn.out]; rfl, hg.trans hws⟩
        · have hbn : Hid (isRgs rs = false) := hide (by rw [hb'.out]; simp [rgsFrom, hf])
          clear hb' hls
          go_wp2_with fail
          refine wp_region_seq (Ext _) (by kernel_rfl) (by kernel_rfl) ((Ext.refl _).drew) ?_
          iterate 24 (((first | (refine wpSeqS_off rfl (by rfl) ?_) | (refine wpSeqS_plain (v := ?_) rfl (by rfl) ?_ ?_; rotate_left; (focus (intro ws hws; obtain ⟨q0, p0⟩ := hws.row (k := bx) (by first | assumption | (simp; done) | (simp; omega) | omega); go_simp; (try with_reducible rfl); done))) | (refine wpSeqS_call (v := ?_) 124 ?_ rfl (by rfl) ?_ ?_ ?_; rotate_left; rotate_left; (focus (intro ws hws; skip; go_simp; (try with_reducible rfl); done)); (focus (intro ws hws; refine (fine_spec a b _).mono ?_; rintro e w' ⟨rfl, h2⟩; refine ⟨?_, hws.trans h2⟩; (try simp only [*]); (try with_reducible rfl); done))) | fail)); (try simp only [Act.put, List.getElem_toArray, List.getElem_cons_zero, List.getElem_cons_succ, List.setIfInBounds_toArray, List.set_cons_zero, List.set_cons_succ]))
          refine wpSeqS_done (by kernel_rfl) (fun ws hws => ?_)
          go_wp2
          go_ret
          exact ⟨by rw [hbn.out]; rfl, hg.trans hws⟩
    · obtain rfl : k = n := by omega
      have hbn : Hid (isRgs rs = true) := hide (by rw [hb'.out, List.drop_of_length_le (Nat.le_of_eq hn'.out)]; rfl)
      clear hb'
      go_wp2
      go_ret
      exact ⟨by rw [hbn.out]; rfl, hg⟩
set_option maxHeartbeats 1000000 in
theorem copyR_spec (ao : Option Addr) (n ca : Nat) (rs : List Rg) (w : World) (hx : ReadR w ao rs) (hn : rs.length = n) (hl : n ≤ 4194304) :
    Calls Try.prog 110 #[.slice ao n ca] w (NewR rs w) := by
  have hn' := hide hn
  have hx' := hide hx
  clear hn hx
  have hlen := hide (rgCells_length rs)
  obtain ⟨i0, hi0, hz0, hz1, hz2⟩ := info_parts infoRange
  go_enter Try.func110, Try.ntmps110
  go_wp2_with (at_builtin; refine wpList_append_any (by rfl) _ _ 30 (by rfl) w.heap.size 61 i0 (.agg #[.int .i64 0, .int .i64 0]) 2 16 Try.underlying30 hi0 hz0 hz1 hz2 rfl (by omega) (.slice (some ⟨w.heap.size, 0, none⟩) 0 0) 0 [] (by rfl) (own_made (by simp) (by omega)) ao n ca (rgCells rs) (by rfl) (by rw [hlen.out, hn'.out]) (hx'.out.v.ext (by repeat (first | with_reducible exact Ext.refl _ | with_reducible assumption | with_reducible refine Ext.alloc ?_ _ | with_reducible refine Ext.drew ?_ | with_reducible refine Ext.drewN ?_ _ | ((with_reducible refine Ext.set ?_ ?_ _); (focus (first | (simp; done) | (simp; omega)))) | with_reducible refine Ext.trans ?_ (by assumption)))) (rgCells_one rs) (by simp [maxLen]; omega) (by omega) (by simp) ?_)
  intro v' w1 hown hgrow
  obtain ⟨ao', cap', rfl, hxl, ho⟩ := own_ranges hown
  have hg : Chg (fun k => k = w.heap.size) _ w1 := grown_chg hgrow (fun k hk => (Option.some.inj hk).symm)
  have hE : Ext w w1 := (Chg.trans (Ext.chg (S := fun k => k = w.heap.size) (by repeat (first | with_reducible exact Ext.refl _ | with_reducible assumption | with_reducible refine Ext.alloc ?_ _ | with_reducible refine Ext.drew ?_ | with_reducible refine Ext.drewN ?_ _ | ((with_reducible refine Ext.set ?_ ?_ _); (focus (first | (simp; done) | (simp; omega)))) | with_reducible refine Ext.trans ?_ (by assumption)))) hg).ext (fun k hk h => by omega)
  clear hxl hown hg
  go_wp2
  refine bodyPost_ret (v := .slice ao' rs.length cap') (by simp [results, Try.results110, go_sem]) rfl ⟨ao', cap', rfl, ho, hE⟩
end
section
open Go.ChangeShapes Go.WideShapes Go.ChangeAt Go.RowKit
set_option linter.unusedSimpArgs false
set_option linter.unusedVariables false
theorem takeR_succ' (rs : List Rg) {k : Nat} (hk : k < rs.length) : rs.take (k + 1) = rs.take k ++ [rs.getD k dr] := by
  rw [List.take_succ_eq_append_getElem hk]; simp [List.getD, List.getElem?_eq_getElem hk]
theorem takeR_eq {xs ys : List Rg} {k : Nat} (hk : k < xs.length) (hk2 : k < ys.length) (h : xs.take k = ys.take k) (e : xs.getD k dr = ys.getD k dr) : xs.take (k + 1) = ys.take (k + 1) := by
  rw [takeR_succ' xs hk, takeR_succ' ys hk2, h, e]
theorem ne_of_getR {xs ys : List Rg} {k : Nat} (e : ¬ xs.getD k dr = ys.getD k dr) : ¬ xs = ys := fun h => e (by rw [h])
end
section
open Go.ChangeShapes Go.WideShapes Go.ChangeAt Go.RowKit
set_option linter.unusedSimpArgs false
set_option linter.unusedVariables false
structure Ads where
  r : Option Addr
  p : Option Addr
  f : Option Addr
  k : Option Addr
structure Con where
  r : List Int
  p : List Rg
  f : List Rg
  k : List Rg
/-- The slices of a sender can be read. -/
structure ReadSnd (w : World) (a : Ads) (c : Con) : Prop where
  r : ReadS w a.r c.r
  p : ReadR w a.p c.p
  f : ReadR w a.f c.f
  k : ReadR w a.k c.k
def Ap (l u l' u' : Nat) : Prop := u ≤ l' ∨ u' ≤ l
/-- Likewise, in blocks from lo up to hi, apart from each other, which may be written. -/
def OwnSnd (lo hi : Nat) (w : World) (a : Ads) (c : Con) : Prop :=
  ∃ l1 u1 l2 u2 l3 u3 l4 u4 : Nat, ((lo ≤ l1 ∧ u1 ≤ hi) ∧ (lo ≤ l2 ∧ u2 ≤ hi) ∧ (lo ≤ l3 ∧ u3 ≤ hi) ∧ (lo ≤ l4 ∧ u4 ≤ hi)) ∧ (Ap l1 u1 l2 u2 ∧ Ap l1 u1 l3 u3 ∧ Ap l1 u1 l4 u4 ∧ Ap l2 u2 l3 u3 ∧ Ap l2 u2 l4 u4 ∧ Ap l3 u3 l4 u4) ∧ OwnS l1 u1 w a.r c.r ∧ OwnR l2 u2 w a.p c.p ∧ OwnR l3 u3 w a.f c.f ∧ OwnR l4 u4 w a.k c.k
theorem OwnSnd.read {lo hi : Nat} {w : World} {a : Ads} {c : Con} (h : OwnSnd lo hi w a c) : ReadSnd w a c := by
  obtain ⟨_, _, _, _, _, _, _, _, _, _, h1, h2, h3, h4⟩ := h
  exact ⟨h1.read, h2.read, h3.read, h4.read⟩
theorem ReadSnd.ext {w w' : World} {a : Ads} {c : Con} (h : ReadSnd w a c) (hx : Ext w w') : ReadSnd w' a c :=
  ⟨h.r.ext hx, h.p.ext hx, h.f.ext hx, h.k.ext hx⟩
theorem OwnSnd.chg {lo hi : Nat} {S : Nat → Prop} {w w' : World} {a : Ads} {c : Con} (h : OwnSnd lo hi w a c) (hx : Chg S w w') (hS : ∀ b, lo ≤ b → b < hi → ¬ S b) : OwnSnd lo hi w' a c := by
  obtain ⟨l1, u1, l2, u2, l3, u3, l4, u4, hb, ha, h1, h2, h3, h4⟩ := h
  exact ⟨l1, u1, l2, u2, l3, u3, l4, u4, hb, ha, h1.chg hx (fun b k1 k2 => hS b (by omega) (by omega)), h2.chg hx (fun b k1 k2 => hS b (by omega) (by omega)), h3.chg hx (fun b k1 k2 => hS b (by omega) (by omega)), h4.chg hx (fun b k1 k2 => hS b (by omega) (by omega))⟩
theorem OwnSnd.mono {lo hi lo' hi' : Nat} {w : World} {a : Ads} {c : Con} (h : OwnSnd lo hi w a c) (h1 : lo' ≤ lo) (h2 : hi ≤ hi') : OwnSnd lo' hi' w a c := by
  obtain ⟨l1, u1, l2, u2, l3, u3, l4, u4, hb, ha, h⟩ := h
  exact ⟨l1, u1, l2, u2, l3, u3, l4, u4, by omega, ha, h⟩
end
section
open Go.ChangeShapes Go.WideShapes Go.ChangeAt Go.RowKit
set_option linter.unusedSimpArgs false
set_option linter.unusedVariables false
set_option maxHeartbeats 1000000 in
theorem fine_impl (a b : Int) (w : World) : Calls Try.prog 122 #[.agg #[.int .i64 a, .int .i64 b]] w fun e w' => e = .returned (.bool (rgFine (a, b))) ∧ Ext w w' := by
  by_cases h0 : 0 ≤ a
  · -- yes
    by_cases h1 : a < b
    · -- yes
      by_cases h2 : b ≤ 4611686018427387903
      · -- yes
        go_enter Try.func122, Try.ntmps122
        go_wp2
        go_ret
        exact ⟨(by first | (simp [rgFine, *]; done) | (simp [rgFine, *]; omega) | (simp [rgFine, *]; split <;> first | (exfalso; omega) | (simp; done) | (simp; omega))), (by repeat (first | with_reducible exact Ext.refl _ | with_reducible assumption | with_reducible refine Ext.alloc ?_ _ | with_reducible refine Ext.drew ?_ | with_reducible refine Ext.drewN ?_ _ | ((with_reducible refine Ext.set ?_ ?_ _); (focus (first | (simp; done) | (simp; omega)))) | with_reducible refine Ext.trans ?_ (by assumption)))⟩
      · -- no
        have h2x : ¬ (b ≤ 4611686018427387903) := h2
        have h2d : decide (b ≤ 4611686018427387903) = false := decide_eq_false h2x
        replace h2 : 4611686018427387903 < b := by omega
        go_enter Try.func122, Try.ntmps122
        go_wp2
        go_ret
        exact ⟨(by first | (simp [rgFine, *]; done) | (simp [rgFine, *]; omega) | (simp [rgFine, *]; split <;> first | (exfalso; omega) | (simp; done) | (simp; omega))), (by repeat (first | with_reducible exact Ext.refl _ | with_reducible assumption | with_reducible refine Ext.alloc ?_ _ | with_reducible refine Ext.drew ?_ | with_reducible refine Ext.drewN ?_ _ | ((with_reducible refine Ext.set ?_ ?_ _); (focus (first | (simp; done) | (simp; omega)))) | with_reducible refine Ext.trans ?_ (by assumption)))⟩
    · -- no
      have h1x : ¬ (a < b) := h1
      have h1d : decide (a < b) = false := decide_eq_false h1x
      replace h1 : b ≤ a := by omega
      go_enter Try.func122, Try.ntmps122
      go_wp2
      go_ret
      exact ⟨(by first | (simp [rgFine, *]; done) | (simp [rgFine, *]; omega) | (simp [rgFine, *]; split <;> first | (exfalso; omega) | (simp; done) | (simp; omega))), (by repeat (first | with_reducible exact Ext.refl _ | with_reducible assumption | with_reducible refine Ext.alloc ?_ _ | with_reducible refine Ext.drew ?_ | with_reducible refine Ext.drewN ?_ _ | ((with_reducible refine Ext.set ?_ ?_ _); (focus (first | (simp; done) | (simp; omega)))) | with_reducible refine Ext.trans ?_ (by assumption)))⟩
  · -- no
    have h0x : ¬ (0 ≤ a) := h0
    have h0d : decide (0 ≤ a) = false := decide_eq_false h0x
    replace h0 : a < 0 := by omega
    go_enter Try.func122, Try.ntmps122
    go_wp2
    go_ret
    exact ⟨(by first | (simp [rgFine, *]; done) | (simp [rgFine, *]; omega) | (simp [rgFine, *]; split <;> first | (exfalso; omega) | (simp; done) | (simp; omega))), (by repeat (first | with_reducible exact Ext.refl _ | with_reducible assumption | with_reducible refine Ext.alloc ?_ _ | with_reducible refine Ext.drew ?_ | with_reducible refine Ext.drewN ?_ _ | ((with_reducible refine Ext.set ?_ ?_ _); (focus (first | (simp; done) | (simp; omega)))) | with_reducible refine Ext.trans ?_ (by assumption)))⟩
set_option maxHeartbeats 2000000 in
set_option maxRecDepth 100000 in
theorem IsRanges_impl (ao : Option Addr) (n ca : Nat) (rs : List Rg) (w : World) (hx : ReadR w ao rs) (hn : rs.length = n) (hl : (n : Int) ≤ 9223372036854775807) :
    Calls Try.prog 73 #[.slice ao n ca] w fun e w' => e = .returned (.bool (isRgs rs)) ∧ Ext w w' := by
  have hn' := hide hn
  have hx' := hide hx
  clear hn hx
  go_enter Try.func73, Try.ntmps73
  go_wp2_with fail
  go_loopw [7] (fun i wr => ∃ (k : Nat), i = .int .i64 k ∧ k ≤ n ∧ isRgs rs = rgsFrom (loR rs k) (rs.drop k) ∧ Ext w wr) (fun i _ => n - (intOf i).toNat)
  case atStart => exact ⟨0, rfl, by omega, rfl, Ext.refl _⟩
  case round =>
    obtain ⟨k, rfl, hk, hb, hg⟩ := hrel
    have hb' := hide hb
    clear hb
    by_cases hlt : k < n
    · have hkx : k < rs.length := by rw [hn'.out]; exact hlt
      rcases hx'.out with hnil | ⟨bx, off, rfl, hx⟩
      · rw [hnil] at hkx; simp at hkx
      obtain ⟨cx, cx2⟩ := hx k hkx
      have la : bx < w.heap.size := World.block_lt_of_cell? w _ cx
      have hr := (hg.row la).1
      have dx := (hr _).trans cx
      have dx2 := (hr _).trans cx2
      have i1 : (0 : Int) ≤ (k : Int) := by omega
      have i2 : (k : Int) < (n : Int) := by omega
      have lw : bx < wr.heap.size := hg.more la
      rw [dropR_cons rs hkx] at hb'
      clear cx cx2
      have hls := hide (loR_succ rs k)
      by_cases hk0 : k = 0
      · have e1 : decide (0 < k) = false := by simp; omega
        have hlz : loR rs k = 0 := by rw [hk0]; rfl
        rw [hlz] at hb'
        clear hx hr hk0 hlz
        generalize rs.getD k dr = x at *
        obtain ⟨a, b⟩ := x
        dsimp only at *
        rcases Bool.eq_false_or_eq_true (rgFine (a, b)) with hf | hf
        · have hbd := rgFine_bd hf
          have hbn : Hid (isRgs rs = rgsFrom (loR rs (k + 1)) (rs.drop (k + 1))) := hide (by rw [hb'.out, hls.out]; simp [rgsFrom, hf]; omega)
          clear hb' hls hbd
          go_wp2_with fail
          refine wp_region_seq (Ext _) (by kernel_rfl) (by kernel_rfl) ((Ext.refl _).drew) ?_
          iterate 18 (((first | (refine wpSeqS_off rfl (by rfl) ?_) | (refine wpSeqS_plain (v := ?_) rfl (by rfl) ?_ ?_; rotate_left; (focus (intro ws hws; obtain ⟨q0, p0⟩ := hws.row (k := bx) (by first | assumption | (simp; done) | (simp; omega) | omega); obtain ⟨q1, p1⟩ := hws.row (k := wr.heap.size) (by first | assumption | (simp; done) | (simp; omega) | omega); go_simp; (try with_reducible rfl); done))) | (refine wpSeqS_call (v := ?_) 122 ?_ rfl (by rfl) ?_ ?_ ?_; rotate_left; rotate_left; (focus (intro ws hws; skip; go_simp; (try with_reducible rfl); done)); (focus (intro ws hws; refine (fine_impl a b _).mono ?_; rintro e w' ⟨rfl, h2⟩; refine ⟨?_, hws.trans h2⟩; (try simp only [*]); (try with_reducible rfl); done))) | fail)); (try simp only [Act.put, List.getElem_toArray, List.getElem_cons_zero, List.getElem_cons_succ, List.setIfInBounds_toArray, List.set_cons_zero, List.set_cons_succ]))
          refine wpSeqS_done (by kernel_rfl) (fun ws hws => ?_)
          go_wp2
          go_roundw
          case rel => exact ⟨k + 1, by go_num, by omega, hbn.out, hg.trans (((Ext.refl wr).alloc _).trans hws)⟩
          case measure => simp [intOf]; omega
        · have hbn : Hid (isRgs rs = false) := hide (by rw [hb'.out]; simp [rgsFrom, hf])
          clear hb' hls
          go_wp2_with fail
          refine wp_region_seq (Ext _) (by kernel_rfl) (by kernel_rfl) ((Ext.refl _).drew) ?_
          iterate 18 (((first | (refine wpSeqS_off rfl (by rfl) ?_) | (refine wpSeqS_plain (v := ?_) rfl (by rfl) ?_ ?_; rotate_left; (focus (intro ws hws; obtain ⟨q0, p0⟩ := hws.row (k := bx) (by first | assumption | (simp; done) | (simp; omega) | omega); obtain ⟨q1, p1⟩ := hws.row (k := wr.heap.size) (by first | assumption | (simp; done) | (simp; omega) | omega); go_simp; (try with_reducible rfl); done))) | (refine wpSeqS_call (v := ?_) 122 ?_ rfl (by rfl) ?_ ?_ ?_; rotate_left; rotate_left; (focus (intro ws hws; skip; go_simp; (try with_reducible rfl); done)); (focus (intro ws hws; refine (fine_impl a b _).mono ?_; rintro e w' ⟨rfl, h2⟩; refine ⟨?_, hws.trans h2⟩; (try simp only [*]); (try with_reducible rfl); done))) | fail)); (try simp only [Act.put, List.getElem_toArray, List.getElem_cons_zero, List.getElem_cons_succ, List.setIfInBounds_toArray, List.set_cons_zero, List.set_cons_succ]))
          refine wpSeqS_done (by kernel_rfl) (fun ws hws => ?_)
          go_wp2
          go_ret
          exact ⟨by rw [hbn.out]; rfl, hg.trans (((Ext.refl wr).alloc _).trans hws)⟩
      · have e1 : decide (0 < k) = true := by simp; omega
        obtain ⟨p, hp⟩ : ∃ p : Nat, p + 1 = k := ⟨k - 1, by omega⟩
        have hlz : loR rs k = (rs.getD p dr).2 + 1 := by rw [← hp, loR_succ]
        rw [hlz] at hb'
        obtain ⟨cy, cy2⟩ := hx p (by omega)
        have dy2 := (hr _).trans cy2
        have p1 : IntKind.i64.wrap ((k : Int) - 1) = (p : Int) := by
          rw [show ((k : Int) - 1) = (p : Int) from by omega]
          exact IntWalk.i64_in _ (by omega)
        have p2 : (0 : Int) ≤ (p : Int) := by omega
        have p3 : (p : Int) < (n : Int) := by omega
        clear hx hr cy cy2 hp hk0 hlz
        generalize rs.getD k dr = x at *
        generalize rs.getD p dr = y at *
        obtain ⟨a, b⟩ := x
        obtain ⟨c, d⟩ := y
        dsimp only at *
        rcases Bool.eq_false_or_eq_true (rgFine (a, b)) with hf | hf
        · by_cases hd : d < a
          · have e2 : decide (a ≤ d) = false := by simp; omega
            have hbn : Hid (isRgs rs = rgsFrom (loR rs (k + 1)) (rs.drop (k + 1))) := hide (by rw [hb'.out, hls.out]; simp [rgsFrom, hf]; omega)
            clear hb' hls hd
            go_wp2_with fail
            refine wp_region_seq (Ext _) (by kernel_rfl) (by kernel_rfl) ((Ext.refl _).drew) ?_
            iterate 18 (((first | (refine wpSeqS_off rfl (by rfl) ?_) | (refine wpSeqS_plain (v := ?_) rfl (by rfl) ?_ ?_; rotate_left; (focus (intro ws hws; obtain ⟨q0, p0⟩ := hws.row (k := bx) (by first | assumption | (simp; done) | (simp; omega) | omega); obtain ⟨q1, p1⟩ := hws.row (k := wr.heap.size) (by first | assumption | (simp; done) | (simp; omega) | omega); go_simp; (try with_reducible rfl); done))) | (refine wpSeqS_call (v := ?_) 122 ?_ rfl (by rfl) ?_ ?_ ?_; rotate_left; rotate_left; (focus (intro ws hws; skip; go_simp; (try with_reducible rfl); done)); (focus (intro ws hws; refine (fine_impl a b _).mono ?_; rintro e w' ⟨rfl, h2⟩; refine ⟨?_, hws.trans h2⟩; (try simp only [*]); (try with_reducible rfl); done))) | fail)); (try simp only [Act.put, List.getElem_toArray, List.getElem_cons_zero, List.getElem_cons_succ, List.setIfInBounds_toArray, List.set_cons_zero, List.set_cons_succ]))
            refine wpSeqS_done (by kernel_rfl) (fun ws hws => ?_)
            go_wp2
            go_roundw
            case rel => exact ⟨k + 1, by go_num, by omega, hbn.out, hg.trans (((Ext.refl wr).alloc _).trans hws)⟩
            case measure => simp [intOf]; omega
          · have e2 : decide (a ≤ d) = true := by simp; omega
            have hbn : Hid (isRgs rs = false) := hide (by rw [hb'.out]; simp [rgsFrom, hf]; omega)
            clear hb' hls hd
            go_wp2_with fail
            refine wp_region_seq (Ext _) (by kernel_rfl) (by kernel_rfl) ((Ext.refl _).drew) ?_
            iterate 18 (((first | (refine wpSeqS_off rfl (by rfl) ?_) | (refine wpSeqS_plain (v := ?_) rfl (by rfl) ?_ ?_; rotate_left; (focus (intro ws hws; obtain ⟨q0, p0⟩ := hws.row (k := bx) (by first | assumption | (simp; done) | (simp; omega) | omega); obtain ⟨q1, p1⟩ := hws.row (k := wr.heap.size) (by first | assumption | (simp; done) | (simp; omega) | omega); go_simp; (try with_reducible rfl); done))) | (refine wpSeqS_call (v := ?_) 122 ?_ rfl (by rfl) ?_ ?_ ?_; rotate_left; rotate_left; (focus (intro ws hws; skip; go_simp; (try with_reducible rfl); done)); (focus (intro ws hws; refine (fine_impl a b _).mono ?_; rintro e w' ⟨rfl, h2⟩; refine ⟨?_, hws.trans h2⟩; (try simp only [*]); (try with_reducible rfl); done))) | fail)); (try simp only [Act.put, List.getElem_toArray, List.getElem_cons_zero, List.getElem_cons_succ, List.setIfInBounds_toArray, List.set_cons_zero, List.set_cons_succ]))
            refine wpSeqS_done (by kernel_rfl) (fun ws hws => ?_)
            go_wp2
            go_ret
            exact ⟨by rw [hbn.out]; rfl, hg.trans (((Ext.refl wr).alloc _).trans hws)⟩
        · have hbn : Hid (isRgs rs = false) := hide (by rw [hb'.out]; simp [rgsFrom, hf])
          clear hb' hls
          go_wp2_with fail
          refine wp_region_seq (Ext _) (by kernel_rfl) (by kernel_rfl) ((Ext.refl _).drew) ?_
          iterate 18 (((first | (refine wpSeqS_off rfl (by rfl) ?_) | (refine wpSeqS_plain (v := ?_) rfl (by rfl) ?_ ?_; rotate_left; (focus (intro ws hws; obtain ⟨q0, p0⟩ := hws.row (k := bx) (by first | assumption | (simp; done) | (simp; omega) | omega); obtain ⟨q1, p1⟩ := hws.row (k := wr.heap.size) (by first | assumption | (simp; done) | (simp; omega) | omega); go_simp; (try with_reducible rfl); done))) | (refine wpSeqS_call (v := ?_) 122 ?_ rfl (by rfl) ?_ ?_ ?_; rotate_left; rotate_left; (focus (intro ws hws; skip; go_simp; (try with_reducible rfl); done)); (focus (intro ws hws; refine (fine_impl a b _).mono ?_; rintro e w' ⟨rfl, h2⟩; refine ⟨?_, hws.trans h2⟩; (try simp only [*]); (try with_reducible rfl); done))) | fail)); (try simp only [Act.put, List.getElem_toArray, List.getElem_cons_zero, List.getElem_cons_succ, List.setIfInBounds_toArray, List.set_cons_zero, List.set_cons_succ]))
          refine wpSeqS_done (by kernel_rfl) (fun ws hws => ?_)
          go_wp2
          go_ret
          exact ⟨by rw [hbn.out]; rfl, hg.trans (((Ext.refl wr).alloc _).trans hws)⟩
    · obtain rfl : k = n := by omega
      have hbn : Hid (isRgs rs = true) := hide (by rw [hb'.out, List.drop_of_length_le (Nat.le_of_eq hn'.out)]; rfl)
      clear hb'
      go_wp2
      go_ret
      exact ⟨by rw [hbn.out]; rfl, hg⟩
end
end Go.Proofs.Ytjhgcbchdnoleaa
