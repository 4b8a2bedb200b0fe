/-
  Contracts of IsBuffer. Conditions: the chunks can be read.
-/
import Derived.Test.YtjnbiacnhimkgaaRecv
import Derived.Test.YtjnbiacnhimkgaaIn
namespace Go.Proofs.Ytjnbiacnhimkgaa
open Go.ChangeShapes Go.WideShapes Go.ChangeAt Go.RowKit
set_option linter.unusedSimpArgs false
/-- Chunks in order from a place on. -/
def bufFrom : Int → List Ck → Bool
  | _, [] => true
  | l, c :: cs => decide (0 < c.2.size) && (decide (l ≤ c.1) && (decide (c.1 + (c.2.size : Int) ≤ 4611686018427387903) && bufFrom (c.1 + (c.2.size : Int) + 1) cs))
def isBuf (nx : Int) (cs : List Ck) : Bool := inB 0 nx 4611686018427387903 && bufFrom nx cs
theorem drop_cons (cs : List Ck) {k : Nat} (hk : k < cs.length) : cs.drop k = cs.getD k dk :: cs.drop (k + 1) := by
  rw [List.drop_eq_getElem_cons hk]; simp [List.getD, List.getElem?_eq_getElem hk]
/-- What is known of chunks that a law was given. -/
def WfC (cs : List Ck) : Prop := ∀ c ∈ cs, (c.2.size : Int) ≤ 9223372036854775807 ∧ -9223372036854775808 ≤ c.1 ∧ c.1 ≤ 9223372036854775807
theorem WfC.at {cs : List Ck} (h : WfC cs) {k : Nat} (hk : k < cs.length) : ((cs.getD k dk).2.size : Int) ≤ 9223372036854775807 ∧ -9223372036854775808 ≤ (cs.getD k dk).1 ∧ (cs.getD k dk).1 ≤ 9223372036854775807 :=
  h _ (by simp [List.getD, List.getElem?_eq_getElem hk])
theorem end_any (c : Ck) (w : World) (h0 : -9223372036854775808 ≤ c.1) (h1 : c.1 + (c.2.size : Int) ≤ 9223372036854775807) :
    Calls Try.prog 33 #[.agg #[.int .i64 c.1, .string c.2]] w fun e w' => e = .returned (.int .i64 (c.1 + (c.2.size : Int))) ∧ Ext w w' := by
  have hwr : IntKind.i64.wrap (c.1 + (c.2.size : Int)) = c.1 + (c.2.size : Int) := IntWalk.i64_in _ (by omega)
  go_enter Try.func33, Try.ntmps33
  go_wp2
  go_ret
  exact ⟨rfl, (by repeat (first | with_reducible exact Ext.refl _ | with_reducible assumption | with_reducible refine Ext.alloc ?_ _ | with_reducible refine Ext.drew ?_ | with_reducible refine Ext.drewN ?_ _ | ((with_reducible refine Ext.set ?_ ?_ _); (focus (first | (simp; done) | (simp; omega)))) | with_reducible refine Ext.trans ?_ (by assumption)))⟩
theorem isQuic_any (x : Int) (w : World) : Calls Try.prog 40 #[.int .i64 x] w fun e w' => e = .returned (.bool (inB 0 x 4611686018427387903)) ∧ w = w' := by
  go_enter Try.func40, Try.ntmps40
  go_wp2_with (go_at_call 53; refine (within_any _ _ _ _).mono ?_; rintro e w1 ⟨rfl, rfl⟩)
  go_ret
  exact ⟨rfl, rfl⟩
theorem l4Quic_any (x : Int) (w : World) : Calls Try.prog 41 #[.int .i64 x] w fun e w' => e = .returned (.bool (inB 0 x 4611686018427387903)) ∧ w = w' := by
  go_enter Try.func41, Try.ntmps41
  go_wp2_with (go_at_call 54; refine (l1In_any _ _ _ _).mono ?_; rintro e w1 ⟨rfl, rfl⟩)
  go_ret
  exact ⟨rfl, rfl⟩
set_option maxHeartbeats 2000000 in
theorem IsBuffer_impl (nx : Int) (ao : Option Addr) (n ca : Nat) (cs : List Ck) (w : World) (hx : ReadC w ao cs) (hn : cs.length = n) (hl : (n : Int) ≤ 9223372036854775807) (hw : WfC cs) :
    Calls Try.prog 9 #[.agg #[.int .i64 nx, .slice ao n ca]] w fun en w' => en = .returned (.bool (isBuf nx cs)) ∧ Ext w w' := by
  rcases Bool.eq_false_or_eq_true (inB 0 nx 4611686018427387903) with hq | hq
  · obtain ⟨q1, q2⟩ := inB_true hq
    rcases Nat.eq_zero_or_pos n with rfl | hpos
    · obtain rfl : cs = [] := List.eq_nil_of_length_eq_zero hn
      clear hx hn hw
      go_enter Try.func9, Try.ntmps9
      go_wp2_with (go_at_call 40; refine (isQuic_any _ _).mono ?_; rintro en w1 ⟨rfl, rfl⟩)
      go_loop [3, 15] (fun l i => l = .int .i64 nx ∧ i = .int .i64 0) (fun _ _ => 0)
      case atStart => exact ⟨rfl, rfl⟩
      case round =>
        obtain ⟨rfl, rfl⟩ := hrel
        go_wp2
        go_ret
        exact ⟨by simp [isBuf, hq, bufFrom], (by repeat (first | with_reducible exact Ext.refl _ | with_reducible assumption | with_reducible refine Ext.alloc ?_ _ | with_reducible refine Ext.drew ?_ | with_reducible refine Ext.drewN ?_ _ | ((with_reducible refine Ext.set ?_ ?_ _); (focus (first | (simp; done) | (simp; omega)))) | with_reducible refine Ext.trans ?_ (by assumption)))⟩
    · rcases hx with rfl | ⟨bx, off, rfl, hx⟩
      · simp at hn; omega
      rw [hn] at hx
      have la : bx < w.heap.size := World.block_lt_of_cell? w _ (hx 0 hpos).1
      have hn' := hide hn
      have hw' := hide hw
      clear hn hw
      go_enter Try.func9, Try.ntmps9
      go_wp2_with (go_at_call 40; refine (isQuic_any _ _).mono ?_; rintro en w1 ⟨rfl, rfl⟩)
      go_loopw [3, 15] (fun l i wr => ∃ (k : Nat) (least : Int), i = .int .i64 k ∧ k ≤ n ∧ l = .int .i64 least ∧ 0 ≤ least ∧ bufFrom nx cs = bufFrom least (cs.drop k) ∧ Ext w wr) (fun _ i _ => n - (intOf i).toNat)
      case atStart => exact ⟨0, nx, rfl, by omega, rfl, q1, rfl, (Ext.refl _).alloc _⟩
      case round =>
        obtain ⟨k, least, rfl, hk, rfl, hl0, hb, hg⟩ := hrel
        have hb' := hide hb
        clear hb
        by_cases hlt : k < n
        · obtain ⟨cx, cx2⟩ := hx k hlt
          have hr := (hg.row la).1
          have dx := (hr _).trans cx
          have dx2 := (hr _).trans cx2
          have i1 : (0 : Int) ≤ (k : Int) := by omega
          have i2 : (k : Int) < (n : Int) := by omega
          have hkx : k < cs.length := by rw [hn'.out]; exact hlt
          obtain ⟨z1, z2, z3⟩ := hw'.out.at hkx
          have hcons := hide (drop_cons cs hkx)
          clear hx cx cx2 hr
          rw [hcons.out] at hb'
          generalize cs.getD k dk = c at *
          by_cases t1 : 0 < c.2.size
          · have t1e : ((c.2.size : Int) == 0) = false := beq_eq_false_iff_ne.2 (by omega)
            by_cases t2 : least ≤ c.1
            · have t2e : decide (c.1 < least) = false := by simp; omega
              have hmq : IntKind.i64.wrap (4611686018427387903 - (c.2.size : Int)) = 4611686018427387903 - (c.2.size : Int) := IntWalk.i64_in _ (by omega)
              by_cases t3 : c.1 + (c.2.size : Int) ≤ 4611686018427387903
              · have t3e : decide (4611686018427387903 - (c.2.size : Int) < c.1) = false := by simp; omega
                have hbn : Hid (bufFrom nx cs = bufFrom (c.1 + (c.2.size : Int) + 1) (cs.drop (k + 1))) := hide (by rw [hb'.out]; simp [bufFrom, t1, t2, t3])
                clear t1
                go_wp2_with fail
                refine (end_any c _ (by omega) (by omega)).mono ?_
                rintro en w1 ⟨rfl, hb1⟩
                have hwr : IntKind.i64.wrap (c.1 + (c.2.size : Int) + 1) = c.1 + (c.2.size : Int) + 1 := IntWalk.i64_in _ (by omega)
                have hg1 : Ext w w1 := (by repeat (first | with_reducible exact Ext.refl _ | with_reducible assumption | with_reducible refine Ext.alloc ?_ _ | with_reducible refine Ext.drew ?_ | with_reducible refine Ext.drewN ?_ _ | ((with_reducible refine Ext.set ?_ ?_ _); (focus (first | (simp; done) | (simp; omega)))) | with_reducible refine Ext.trans ?_ (by assumption)))
                go_wp2
                go_roundw
                case rel => exact ⟨k + 1, c.1 + (c.2.size : Int) + 1, by go_num, by omega, by first | rfl | (congr 1; omega), by omega, hbn.out, hg1⟩
                case measure => simp [intOf]; omega
              · have t3e : decide (4611686018427387903 - (c.2.size : Int) < c.1) = true := by simp; omega
                have hbn : bufFrom nx cs = false := by rw [hb'.out]; simp [bufFrom, t3]
                clear t1
                go_wp2
                go_ret
                exact ⟨by simp [isBuf, hq, hbn], (by repeat (first | with_reducible exact Ext.refl _ | with_reducible assumption | with_reducible refine Ext.alloc ?_ _ | with_reducible refine Ext.drew ?_ | with_reducible refine Ext.drewN ?_ _ | ((with_reducible refine Ext.set ?_ ?_ _); (focus (first | (simp; done) | (simp; omega)))) | with_reducible refine Ext.trans ?_ (by assumption)))⟩
            · have t2e : decide (c.1 < least) = true := by simp; omega
              have hbn : bufFrom nx cs = false := by rw [hb'.out]; simp [bufFrom, t2]
              clear t1
              go_wp2
              go_ret
              exact ⟨by simp [isBuf, hq, hbn], (by repeat (first | with_reducible exact Ext.refl _ | with_reducible assumption | with_reducible refine Ext.alloc ?_ _ | with_reducible refine Ext.drew ?_ | with_reducible refine Ext.drewN ?_ _ | ((with_reducible refine Ext.set ?_ ?_ _); (focus (first | (simp; done) | (simp; omega)))) | with_reducible refine Ext.trans ?_ (by assumption)))⟩
          · have t1e : ((c.2.size : Int) == 0) = true := beq_iff_eq.2 (by omega)
            have hbn : bufFrom nx cs = false := by rw [hb'.out]; simp [bufFrom, t1]
            clear t1
            go_wp2
            go_ret
            exact ⟨by simp [isBuf, hq, hbn], (by repeat (first | with_reducible exact Ext.refl _ | with_reducible assumption | with_reducible refine Ext.alloc ?_ _ | with_reducible refine Ext.drew ?_ | with_reducible refine Ext.drewN ?_ _ | ((with_reducible refine Ext.set ?_ ?_ _); (focus (first | (simp; done) | (simp; omega)))) | with_reducible refine Ext.trans ?_ (by assumption)))⟩
        · obtain rfl : k = n := by omega
          have hbn : bufFrom nx cs = true := by rw [hb'.out, List.drop_of_length_le (Nat.le_of_eq hn'.out)]; rfl
          clear hx
          go_wp2
          go_ret
          exact ⟨by simp [isBuf, hq, hbn], hg⟩
  · clear hx hn hw
    go_enter Try.func9, Try.ntmps9
    go_wp2_with (go_at_call 40; refine (isQuic_any _ _).mono ?_; rintro en w1 ⟨rfl, rfl⟩)
    go_ret
    exact ⟨by simp [isBuf, hq], (by repeat (first | with_reducible exact Ext.refl _ | with_reducible assumption | with_reducible refine Ext.alloc ?_ _ | with_reducible refine Ext.drew ?_ | with_reducible refine Ext.drewN ?_ _ | ((with_reducible refine Ext.set ?_ ?_ _); (focus (first | (simp; done) | (simp; omega)))) | with_reducible refine Ext.trans ?_ (by assumption)))⟩
/-- The same, as the reference looks at it. -/
def bufS : Int → List Ck → Bool
  | _, [] => true
  | e, c :: cs => decide (e < c.1) && (decide (0 < c.2.size) && (decide (c.1 + (c.2.size : Int) ≤ 4611686018427387903) && bufS (c.1 + (c.2.size : Int)) cs))
theorem bufS_eq : ∀ (cs : List Ck) (e : Int), bufS e cs = bufFrom (e + 1) cs
  | [], _ => rfl
  | c :: cs, e => by
    rw [bufS, bufFrom, bufS_eq cs]
    have h : decide (e < c.1) = decide (e + 1 ≤ c.1) := by congr 1
    rw [h]
    cases decide (e + 1 ≤ c.1) <;> cases decide (0 < c.2.size) <;> rfl
theorem isBuf_spec (nx : Int) (cs : List Ck) : isBuf nx cs = (inB 0 nx 4611686018427387903 && bufS (IntKind.i64.wrap (nx - 1)) cs) := by
  unfold isBuf
  rcases Bool.eq_false_or_eq_true (inB 0 nx 4611686018427387903) with hq | hq
  · obtain ⟨q1, q2⟩ := inB_true hq
    rw [bufS_eq, IntWalk.i64_in _ (by omega), Int.sub_add_cancel]
  · rw [hq]; rfl
theorem empty_size (s : ByteArray) : s.toList.isEmpty = decide (s.size = 0) := by
  rw [ByteArray.toList_eq]
  have h : s.size = s.data.toList.length := (Array.length_toList (xs := s.data)).symm
  rw [h]
  cases s.data.toList <;> simp
set_option maxHeartbeats 2000000 in
theorem IsBuffer_spec (nx : Int) (ao : Option Addr) (n ca : Nat) (cs : List Ck) (w : World) (hx : ReadC w ao cs) (hn : cs.length = n) (hl : (n : Int) ≤ 9223372036854775807) (hw : WfC cs) :
    Calls Try.prog 10 #[.agg #[.int .i64 nx, .slice ao n ca]] w fun en w' => en = .returned (.bool (isBuf nx cs)) ∧ Ext w w' := by
  rw [isBuf_spec]
  rcases Nat.eq_zero_or_pos n with rfl | hpos
  · obtain rfl : cs = [] := List.eq_nil_of_length_eq_zero hn
    clear hx hn hw
    go_enter Try.func10, Try.ntmps10
    go_wp2
    go_loop [4] (fun i => i = .int .i64 0) (fun _ => 0)
    case atStart => rfl
    case round =>
      obtain rfl := hrel
      go_wp2_with (go_at_call 41; refine (l4Quic_any _ _).mono ?_; rintro en w1 ⟨rfl, rfl⟩)
      go_ret
      exact ⟨by simp [bufS], (by repeat (first | with_reducible exact Ext.refl _ | with_reducible assumption | with_reducible refine Ext.alloc ?_ _ | with_reducible refine Ext.drew ?_ | with_reducible refine Ext.drewN ?_ _ | ((with_reducible refine Ext.set ?_ ?_ _); (focus (first | (simp; done) | (simp; omega)))) | with_reducible refine Ext.trans ?_ (by assumption)))⟩
  · rcases hx with rfl | ⟨bx, off, rfl, hx⟩
    · simp at hn; omega
    rw [hn] at hx
    have la : bx < w.heap.size := World.block_lt_of_cell? w _ (hx 0 hpos).1
    have hn' := hide hn
    have hw' := hide hw
    clear hn hw
    obtain ⟨e0, he0⟩ : ∃ e0, IntKind.i64.wrap (nx - 1) = e0 := ⟨_, rfl⟩
    have he1 : RowKit.wrap64 (nx - 1) = e0 := by rw [← IntWalk.i64_left]; exact he0
    rw [he0]
    go_enter Try.func10, Try.ntmps10
    go_wp2
    go_loopw [3, 4] (fun l i wr => ∃ (k : Nat) (e : Int), i = .int .i64 k ∧ k ≤ n ∧ l = .int .i64 e ∧ bufS e0 cs = bufS e (cs.drop k) ∧ Ext (w.alloc (.cells #[.int .i64 nx, .slice (some ⟨bx, off, none⟩) n ca] 26)) wr) (fun _ i _ => n - (intOf i).toNat)
    case atStart => exact ⟨0, e0, rfl, by omega, rfl, rfl, Ext.refl _⟩
    case round =>
      obtain ⟨k, e, rfl, hk, rfl, hb, hg⟩ := hrel
      have hb' := hide hb
      clear hb
      have hg0 : Ext w wr := Ext.trans ((Ext.refl w).alloc _) hg
      obtain ⟨r0, f0⟩ := hg.row (k := w.heap.size) (by first | assumption | (simp; done) | (simp; omega) | omega)
      have kb0 := hg.more (k := w.heap.size) (by first | assumption | (simp; done) | (simp; omega) | omega)
      have a0 : wr.cell? ⟨w.heap.size, 0, none⟩ = some (.int .i64 nx) := (by rw [r0]; simp [go_sem])
      have a1 : wr.cell? ⟨w.heap.size, 1, none⟩ = some (.slice (some ⟨bx, off, none⟩) n ca) := (by rw [r0]; simp [go_sem])
      clear r0 f0
      by_cases hlt : k < n
      · obtain ⟨cx, cx2⟩ := hx k hlt
        have hr := (hg0.row la).1
        have dx := (hr _).trans cx
        have dx2 := (hr _).trans cx2
        have i1 : (0 : Int) ≤ (k : Int) := by omega
        have i2 : (k : Int) < (n : Int) := by omega
        have hkx : k < cs.length := by rw [hn'.out]; exact hlt
        obtain ⟨z1, z2, z3⟩ := hw'.out.at hkx
        have hcons := hide (drop_cons cs hkx)
        clear hx cx cx2 hr
        rw [hcons.out] at hb'
        generalize cs.getD k dk = c at *
        have hem := empty_size c.2
        by_cases t2 : e < c.1
        · have t2e : decide (c.1 ≤ e) = false := by simp; omega
          by_cases t1 : 0 < c.2.size
          · have t1e : decide (c.2.size = 0) = false := decide_eq_false (by omega)
            rw [t1e] at hem
            have hmq : IntKind.i64.wrap (4611686018427387903 - (c.2.size : Int)) = 4611686018427387903 - (c.2.size : Int) := IntWalk.i64_in _ (by omega)
            by_cases t3 : c.1 + (c.2.size : Int) ≤ 4611686018427387903
            · have t3e : decide (4611686018427387903 - (c.2.size : Int) < c.1) = false := by simp; omega
              have hbn : Hid (bufS e0 cs = bufS (c.1 + (c.2.size : Int)) (cs.drop (k + 1))) := hide (by rw [hb'.out]; simp [bufS, t1, t2, t3])
              have hwr : IntKind.i64.wrap (c.1 + (c.2.size : Int)) = c.1 + (c.2.size : Int) := IntWalk.i64_in _ (by omega)
              clear t1
              go_wp2
              go_roundw
              case rel => exact ⟨k + 1, c.1 + (c.2.size : Int), by go_num, by omega, by first | rfl | (congr 1; omega), hbn.out, hg.alloc _⟩
              case measure => simp [intOf]; omega
            · have t3e : decide (4611686018427387903 - (c.2.size : Int) < c.1) = true := by simp; omega
              have hbn : bufS e0 cs = false := by rw [hb'.out]; simp [bufS, t3]
              clear t1
              go_wp2
              go_ret
              exact ⟨by simp [hbn], (by repeat (first | with_reducible exact Ext.refl _ | with_reducible assumption | with_reducible refine Ext.alloc ?_ _ | with_reducible refine Ext.drew ?_ | with_reducible refine Ext.drewN ?_ _ | ((with_reducible refine Ext.set ?_ ?_ _); (focus (first | (simp; done) | (simp; omega)))) | with_reducible refine Ext.trans ?_ (by assumption)))⟩
          · have t1e : decide (c.2.size = 0) = true := decide_eq_true (by omega)
            rw [t1e] at hem
            have hbn : bufS e0 cs = false := by rw [hb'.out]; simp [bufS, t1]
            clear t1
            go_wp2
            go_ret
            exact ⟨by simp [hbn], (by repeat (first | with_reducible exact Ext.refl _ | with_reducible assumption | with_reducible refine Ext.alloc ?_ _ | with_reducible refine Ext.drew ?_ | with_reducible refine Ext.drewN ?_ _ | ((with_reducible refine Ext.set ?_ ?_ _); (focus (first | (simp; done) | (simp; omega)))) | with_reducible refine Ext.trans ?_ (by assumption)))⟩
        · have t2e : decide (c.1 ≤ e) = true := by simp; omega
          have hbn : bufS e0 cs = false := by rw [hb'.out]; simp [bufS, t2]
          go_wp2
          go_ret
          exact ⟨by simp [hbn], (by repeat (first | with_reducible exact Ext.refl _ | with_reducible assumption | with_reducible refine Ext.alloc ?_ _ | with_reducible refine Ext.drew ?_ | with_reducible refine Ext.drewN ?_ _ | ((with_reducible refine Ext.set ?_ ?_ _); (focus (first | (simp; done) | (simp; omega)))) | with_reducible refine Ext.trans ?_ (by assumption)))⟩
      · obtain rfl : k = n := by omega
        have hbn : bufS e0 cs = true := by rw [hb'.out, List.drop_of_length_le (Nat.le_of_eq hn'.out)]; rfl
        clear hx
        go_wp2_with (go_at_call 41; refine (l4Quic_any _ _).mono ?_; rintro en w1 ⟨rfl, rfl⟩)
        go_ret
        exact ⟨by simp [hbn], hg0⟩
end Go.Proofs.Ytjnbiacnhimkgaa
