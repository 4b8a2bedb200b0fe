/-
  Drawn rings. Conditions: the cursor.
-/
import Derived.Test.YteebkiochnhnhaaWrite
import Derived.Test.YteebkiochnhnhaaDrawD
import Derived.Test.YteebkiochnhnhaaBoxV
import Derived.Test.YteebkiochnhnhaaStore
import Derived.Deep.RegionHeld3
import Derived.Deep.DeepCutAuto
namespace Go.Proofs.Yteebkiochnhnhaa
open Go.ChangeShapes Go.WideShapes Go.ChangeAt Go.RowKit
set_option linter.unusedSimpArgs false
set_option linter.unusedVariables false
structure Rn where
  z : Int
  b : Int
  e : Int
  xs : List Int
/-- What is known of a drawn ring: ahead of the last change, and behind it. -/
structure RnOk (m : Int) (r : Rn) : Prop where
  len : r.xs.length ≤ 64
  z0 : 0 ≤ r.z
  z1 : r.z ≤ 128
  b0 : 0 ≤ r.b
  be : r.b ≤ r.e
  em : r.e ≤ m
structure RnAny (r : Rn) : Prop where
  len : r.xs.length ≤ 64
  z0 : 0 ≤ r.z
  z1 : r.z ≤ 128
  b0 : 0 ≤ r.b
  b1 : r.b ≤ 100
  e0 : -1 ≤ r.e
  e1 : r.e ≤ 4611686018427387904
theorem RnOk.any {m : Int} {r : Rn} (h : RnOk m r) (hm : m ≤ 100) : RnAny r := by
  obtain ⟨h1, h2, h3, h4, h5, h6⟩ := h
  exact ⟨h1, h2, h3, h4, by omega, by omega, by omega⟩
theorem RnOk.mono {m m' : Int} {r : Rn} (h : RnOk m r) (k : m ≤ m') : RnOk m' r := ⟨h.len, h.z0, h.z1, h.b0, h.be, Int.le_trans h.em k⟩
def wrR (r : Rn) (d : ByteArray) : Rn := ⟨r.z, r.b, r.e + (writeM r.z r.b r.e d r.xs : Nat), setN r.xs r.z r.e (byteAt d) (writeM r.z r.b r.e d r.xs)⟩
def drR (r : Rn) (u : Int) : Rn := ⟨r.z, dropB r.z r.b r.e u r.xs, r.e, dropC r.z r.b r.e u r.xs⟩
theorem writeM_eq (z b e : Int) (d : ByteArray) (xs : List Int) : (writeM z b e d xs : Int) = min (d.size : Int) (roomOf z b e xs) := by
  have := roomOf_bd z b e xs
  unfold writeM
  omega
theorem wrR_ok {m : Int} {r : Rn} (h : RnOk m r) {d : ByteArray} (hd : (d.size : Int) ≤ 6) : RnOk (m + 6) (wrR r d) := by
  have := writeM_eq r.z r.b r.e d r.xs
  have h4 := h.b0
  have h5 := h.be
  have h6 := h.em
  refine ⟨by show (setN _ _ _ _ _).length ≤ 64; rw [setN_length]; exact h.len, h.z0, h.z1, h.b0, ?_, ?_⟩
  · show r.b ≤ r.e + _
    omega
  · show r.e + _ ≤ m + 6
    omega
theorem drR_ok {m : Int} {r : Rn} (h : RnOk m r) {u : Int} : RnOk m (drR r u) := by
  refine ⟨by show (dropC _ _ _ _ _).length ≤ 64; rw [dropC_length]; exact h.len, h.z0, h.z1, ?_, ?_, h.em⟩
  · show 0 ≤ dropB _ _ _ _ _
    have h4 := h.b0
    unfold dropB
    split
    · rename_i hk
      simp only [dropOk, Bool.and_eq_true] at hk
      have := inB_true hk.2
      omega
    · exact h4
  · show dropB _ _ _ _ _ ≤ r.e
    unfold dropB
    split
    · rename_i hk
      simp only [dropOk, Bool.and_eq_true] at hk
      exact (inB_true hk.2).2
    · exact h.be
/-- A ring, and a second value: its cells in memory of the call's own. -/
def RnRes (r : Rn) (v : Value) (w : World) (en : Ending) (w' : World) : Prop :=
  ∃ (ao : Option Addr) (cap : Nat), en = .returned (.tuple #[.agg #[.int .i64 r.z, .int .i64 r.b, .int .i64 r.e, .slice ao r.xs.length cap], v]) ∧ OwnS w.heap.size w'.heap.size w' ao r.xs ∧ Ext w w'
def DrewRn (p : Nat) (code : Value) (w : World) (en : Ending) (w' : World) : Prop :=
  ∃ (r : Rn) (ao : Option Addr) (cap : Nat), en = .returned (.agg #[.int .i64 r.z, .int .i64 r.b, .int .i64 r.e, .slice ao r.xs.length cap]) ∧ RnAny r ∧ OwnS w.heap.size w'.heap.size w' ao r.xs ∧ CurAt w' p code ∧ Chg (fun k => k = p) w w'
theorem CurAt.ext {w w' : World} {p : Nat} {code : Value} (h : CurAt w p code) (hx : Ext w w') : CurAt w' p code := h.stays (hx.chg (fun _ => False)) (fun _ _ h => h)
theorem wr_impl (r : Rn) (d : ByteArray) (ao : Option Addr) (ca : Nat) (w : World) (hx : ReadS w ao r.xs) (hl : r.xs.length ≤ 64) (e0 : -1 ≤ r.e) (e1 : r.e ≤ 4611686018427387904) :
    Calls Try.prog 29 #[.agg #[.int .i64 r.z, .int .i64 r.b, .int .i64 r.e, .slice ao r.xs.length ca], .string d] w (RnRes (wrR r d) (.int .i64 (writeM r.z r.b r.e d r.xs : Nat)) w) :=
  WriteRing_impl r.z r.b r.e d ao _ ca r.xs w hx rfl (by omega) (by omega) (by omega) _ (writeM_eq _ _ _ _ _)
theorem dr_impl (r : Rn) (u : Int) (ao : Option Addr) (ca : Nat) (w : World) (hx : ReadS w ao r.xs) (hl : r.xs.length ≤ 64) (e1 : r.e ≤ 4611686018427387904) :
    Calls Try.prog 27 #[.agg #[.int .i64 r.z, .int .i64 r.b, .int .i64 r.e, .slice ao r.xs.length ca], .int .i64 u] w (RnRes (drR r u) (.bool (dropOk r.z r.b r.e u r.xs)) w) :=
  DropRing_impl r.z r.b r.e u ao _ ca r.xs w hx rfl (by omega)
theorem wr_spec (r : Rn) (d : ByteArray) (ao : Option Addr) (ca : Nat) (w : World) (hx : ReadS w ao r.xs) (hl : r.xs.length ≤ 64) (e0 : -1 ≤ r.e) (e1 : r.e ≤ 4611686018427387904) :
    Calls Try.prog 28 #[.agg #[.int .i64 r.z, .int .i64 r.b, .int .i64 r.e, .slice ao r.xs.length ca], .string d] w (RnRes (wrR r d) (.int .i64 (writeM r.z r.b r.e d r.xs : Nat)) w) :=
  WriteRing_spec r.z r.b r.e d ao _ ca r.xs w hx rfl (by omega) (by omega) (by omega) _ (writeM_eq _ _ _ _ _)
theorem dr_spec (r : Rn) (u : Int) (ao : Option Addr) (ca : Nat) (w : World) (hx : ReadS w ao r.xs) (hl : r.xs.length ≤ 64) (e1 : r.e ≤ 4611686018427387904) :
    Calls Try.prog 26 #[.agg #[.int .i64 r.z, .int .i64 r.b, .int .i64 r.e, .slice ao r.xs.length ca], .int .i64 u] w (RnRes (drR r u) (.bool (dropOk r.z r.b r.e u r.xs)) w) :=
  DropRing_spec r.z r.b r.e u ao _ ca r.xs w hx rfl (by omega) (by omega)
def pick2 (A B : World → Prop) : Bool → World → Prop
  | false => A
  | true => B
/-- A ring's box, and its cells in memory from L on, not in the box. -/
def RingAt (L B : Nat) (m : Int) (w : World) : Prop :=
  ∃ (q : Rn) (ao : Option Addr) (cap lo hi : Nat), RnOk m q ∧ BoxV B w [.int .i64 q.z, .int .i64 q.b, .int .i64 q.e, .slice ao q.xs.length cap] ∧ OwnS lo hi w ao q.xs ∧ L ≤ lo ∧ (hi ≤ B ∨ B < lo) ∧ hi ≤ w.heap.size
theorem RingAt.chg {S : Nat → Prop} {L B : Nat} {m : Int} {w w' : World} (h : RingAt L B m w) (hx : Chg S w w') (hB : ¬ S B) (hS : ∀ b, L ≤ b → b ≠ B → ¬ S b) : RingAt L B m w' := by
  obtain ⟨q, ao, cap, lo, hi, h1, h2, h3, h4, h5, h6⟩ := h
  exact ⟨q, ao, cap, lo, hi, h1, h2.chg hx hB, h3.chg hx (fun b b1 b2 => hS b (by omega) (by omega)), h4, h5, Nat.le_trans h6 hx.size⟩
theorem RingAt.mono {L B : Nat} {m m' : Int} {w : World} (h : RingAt L B m w) (k : m ≤ m') : RingAt L B m' w := by
  obtain ⟨q, ao, cap, lo, hi, h1, h2⟩ := h
  exact ⟨q, ao, cap, lo, hi, h1.mono k, h2⟩
/-- What turns as a ring is drawn: the cursor and the ring's box. -/
def CurBox (p B : Nat) (u v : World) : Prop := Chg (fun k => k = p ∨ k = B) u v
theorem CurBox.refl (p B : Nat) (u : World) : CurBox p B u u := Chg.refl _ _
theorem CurBox.trans (p B : Nat) (u v w : World) (h : CurBox p B u v) (k : CurBox p B v w) : CurBox p B u w := Chg.trans h k
theorem CurBox.of {p B : Nat} {u v : World} (h : Chg (fun k => k = p) u v) : CurBox p B u v := Chg.mono h (fun _ _ h => Or.inl h)
theorem CurBox.ext {p B : Nat} {u v : World} (h : Ext u v) : CurBox p B u v := h.chg _
/-- A new ring that a call gave, with a second value; the ring alone. -/
def ringTL (p L B : Nat) (m : Int) (hp : p < L) : LineR (CurBox p B) :=
  ⟨fun v w => ∃ (q : Rn) (u : Value) (ao : Option Addr) (cap lo hi : Nat), v = .tuple #[.agg #[.int .i64 q.z, .int .i64 q.b, .int .i64 q.e, .slice ao q.xs.length cap], u] ∧ RnOk m q ∧ OwnS lo hi w ao q.xs ∧ L ≤ lo ∧ B < lo ∧ hi ≤ w.heap.size,
   fun _ w w' hx ⟨q, u, ao, cap, lo, hi, h1, h2, h3, h4, h5, h6⟩ => ⟨q, u, ao, cap, lo, hi, h1, h2, OwnS.chg h3 hx (fun b b1 b2 h => by (try dsimp only at h); omega), h4, h5, Nat.le_trans h6 (Chg.size hx)⟩⟩
def ringVL (p L B : Nat) (m : Int) (hp : p < L) : LineR (CurBox p B) :=
  ⟨fun v w => ∃ (q : Rn) (ao : Option Addr) (cap lo hi : Nat), v = .agg #[.int .i64 q.z, .int .i64 q.b, .int .i64 q.e, .slice ao q.xs.length cap] ∧ RnOk m q ∧ OwnS lo hi w ao q.xs ∧ L ≤ lo ∧ B < lo ∧ hi ≤ w.heap.size,
   fun _ w w' hx ⟨q, ao, cap, lo, hi, h1, h2, h3, h4, h5, h6⟩ => ⟨q, ao, cap, lo, hi, h1, h2, OwnS.chg h3 hx (fun b b1 b2 h => by (try dsimp only at h); omega), h4, h5, Nat.le_trans h6 (Chg.size hx)⟩⟩
set_option maxHeartbeats 8000000 in
set_option maxRecDepth 100000 in
theorem l8Ring_any (p : Nat) (code : Value) (w : World) (hc : CurAt w p code) :
    Calls Try.prog 53 #[.pointer (some ⟨p, 0, none⟩)] w (DrewRn p code w) := by
  have hpl := hc.lt
  go_enter Try.func53, Try.ntmps53
  go_wp2_with fail
  have hE0 : Ext w (w.alloc (.cells #[.int .i64 0, .int .i64 0, .int .i64 0, .slice none 0 0] 24)) := (Ext.refl w).alloc _
  have hpk := l1PickInt_new p code [1, 2, 4, 8, 8, 16] 3 (w.alloc (.cells #[.int .i64 0, .int .i64 0, .int .i64 0, .slice none 0 0] 24)) (hc.ext hE0) (by simp) (by simp)
  rw [World.size_alloc] at hpk
  refine hpk.mono ?_
  clear hpk
  rintro en w1 ⟨y, rfl, hy, hcu1, hg1⟩
  have hE1 : Ext (w.alloc (.cells #[.int .i64 0, .int .i64 0, .int .i64 0, .slice none 0 0] 24)) ((w.alloc (.cells #[.int .i64 0, .int .i64 0, .int .i64 0, .slice none 0 0] 24)).alloc (.cells ([1, 2, 4, 8, 8, 16].map (Value.int .i64)).toArray 3)) := (Ext.refl _).alloc _
  have hgw1 : Chg (fun b => b = p) w w1 := ((hE0.trans hE1).chg _).trans hg1
  have hs1 : w.heap.size + 2 ≤ w1.heap.size := by have := hg1.size; simpa using this
  have hB2_1 := BoxV.chg (S := fun b => b = p) (BoxV.ext (BoxV.new w [.int .i64 0, .int .i64 0, .int .i64 0, .slice none 0 0] 24) hE1) hg1 (by (try dsimp only); omega)
  obtain ⟨m, rfl, hm, hm1, hm2⟩ : ∃ m : Nat, y = (m : Int) ∧ ringSz (m : Int) = true ∧ 1 ≤ m ∧ m ≤ 16 := by
    simp only [List.mem_cons, List.not_mem_nil, or_false] at hy
    rcases hy with rfl | rfl | rfl | rfl | rfl | rfl
    · exact ⟨1, rfl, by decide, by omega, by omega⟩
    · exact ⟨2, rfl, by decide, by omega, by omega⟩
    · exact ⟨4, rfl, by decide, by omega, by omega⟩
    · exact ⟨8, rfl, by decide, by omega, by omega⟩
    · exact ⟨8, rfl, by decide, by omega, by omega⟩
    · exact ⟨16, rfl, by decide, by omega, by omega⟩
  clear hg1 hE1 hE0 hy
  go_wp2_with fail
  refine (NewRing_spec_yes m _ hm).mono ?_
  rintro en w2 ⟨ao, cap, rfl, ho2, hb2⟩
  have hs2 := hb2.size
  have hB2_2 := BoxV.ext hB2_1 hb2
  have hgw2 : Chg (fun b => b = p) w w2 := hgw1.trans (hb2.chg _)
  clear hB2_1 hgw1
  go_wp2_with fail
  have hE : Ext w2 (w2.alloc (.cells #[.int .i64 m, .int .i64 0, .int .i64 0, .slice ao m cap] 24)) := (Ext.refl w2).alloc _
  refine (l1Below_pos p code 6 _ (by omega) ((hcu1.ext hb2).ext hE)).mono ?_
  rintro en w3 ⟨n0, rfl, ⟨x0, x1⟩, hcu3, hg3⟩
  have hB3_3 := hide (BoxV.chg (S := fun b => b = p) (BoxV.new w2 [.int .i64 m, .int .i64 0, .int .i64 0, .slice ao m cap] 24) hg3 (by (try dsimp only); omega))
  have hB2_3 := hide (BoxV.chg (S := fun b => b = p) (BoxV.ext hB2_2 hE) hg3 (by (try dsimp only); omega))
  have hown_3 := hide (OwnS.chg (S := fun b => b = p) ho2 ((hE.chg _).trans hg3) (fun b h1 h2 h3 => by (try dsimp only at h3); omega))
  have hs3 : w2.heap.size + 1 ≤ w3.heap.size := by have := hg3.size; simpa using this
  have hgw3 : Chg (fun b => b = p ∨ w.heap.size ≤ b) w w3 := ((hgw2.trans (hE.chg _)).trans hg3).mono (fun b _ h => Or.inl h)
  clear hg3 hE hgw2 hB2_2 ho2 hb2 hcu1
  go_wp2_with fail
  go_loopw [5] (fun i wr => ∃ (k : Int), i = .int .i64 k ∧ 0 ≤ k ∧ k ≤ n0 ∧ RingAt (w.heap.size + 1) w2.heap.size (6 * (n0 - k)) wr ∧ BoxV w.heap.size wr [.int .i64 0, .int .i64 0, .int .i64 0, .slice none 0 0] ∧ CurAt wr p code ∧ Chg (fun b => b = p ∨ w.heap.size ≤ b) w wr ∧ w2.heap.size + 1 ≤ wr.heap.size) (fun i _ => (intOf i).toNat)
  case atStart => exact ⟨n0, rfl, x0, Int.le_refl _, ⟨⟨m, 0, 0, List.replicate m 0⟩, ao, cap, w1.heap.size, w2.heap.size, ⟨by simp; omega, by dsimp only; omega, by dsimp only; omega, Int.le_refl _, Int.le_refl _, by dsimp only; omega⟩, by simpa using hB3_3.out, hown_3.out, by omega, Or.inl (Nat.le_refl _), by omega⟩, hB2_3.out, hcu3, hgw3, hs3⟩
  case round =>
    clear hB3_3 hB2_3 hown_3 hcu3 hgw3
    obtain ⟨k, rfl, k0, k1, hring, hB2, hcur, hgwr, hsz⟩ := hrel
    have hB2_r := hide hB2
    have hring_r := hide hring
    clear hB2 hring
    have hne1 : w.heap.size ≠ w2.heap.size := by omega
    have hne2 : w2.heap.size ≠ w.heap.size := by omega
    by_cases hlt : 0 < k
    · have hkk : 6 * (n0 - k) ≤ 36 := by omega
      obtain ⟨r, ao, cap, lo, hi, hok, rbr, ror, l1_r, l2_r, l3_r⟩ := hring_r.out
      have hl64 := hok.len
      have hb0 := hok.b0
      have hbe := hok.be
      have hem := hok.em
      go_wp2_with fail
      refine wp_region_store 7 (CurBox p w2.heap.size) (pick2 (fun v => CurAt v p code ∧ BoxV w2.heap.size v [.int .i64 r.z, .int .i64 r.b, .int .i64 r.e, .slice ao r.xs.length cap] ∧ OwnS lo hi v ao r.xs) (fun v => CurAt v p code ∧ RingAt (w.heap.size + 1) w2.heap.size (6 * (n0 - (k - 1))) v)) [(LineR.is (.agg #[.int .i64 r.z, .int .i64 r.b, .int .i64 r.e, .slice ao r.xs.length cap]) : LineR (CurBox p w2.heap.size)), (LineR.is (.pointer (some ⟨p, 0, none⟩)) : LineR (CurBox p w2.heap.size)), (LineR.of (fun v => ∃ d : ByteArray, v = .string d ∧ (d.size : Int) ≤ 6) : LineR (CurBox p w2.heap.size)), (ringTL p (w.heap.size + 1) w2.heap.size (6 * (n0 - (k - 1))) (by omega) : LineR (CurBox p w2.heap.size)), (ringTL p (w.heap.size + 1) w2.heap.size (6 * (n0 - (k - 1))) (by omega) : LineR (CurBox p w2.heap.size)), (ringVL p (w.heap.size + 1) w2.heap.size (6 * (n0 - (k - 1))) (by omega) : LineR (CurBox p w2.heap.size)), (LineR.free : LineR (CurBox p w2.heap.size)), (LineR.free : LineR (CurBox p w2.heap.size))] [20, 21, 22, 23, 19, 24, 25] (by kernel_rfl) (by kernel_rfl) (by kernel_rfl) (by kernel_rfl) (by kernel_rfl) (by kernel_rfl) (CurBox.trans p w2.heap.size) (CurBox.refl p w2.heap.size _) (⟨CurAt.drew hcur, rbr.ext (Ext.refl _).drew, OwnS.chg ror ((Ext.refl wr).drew.chg (fun _ => False)) (fun _ _ _ h => h)⟩) ?_ ?_
      · refine Each.cons ?_ (Each.cons ?_ (Each.cons ?_ (Each.cons ?_ (Each.cons ?_ (Each.cons ?_ (Each.cons ?_ (Each.cons ?_ (Each.nil))))))))
        · refine ⟨fun _ => ?_, fun h => absurd h (by decide)⟩
          intro b g ws hb hws hI hl
          obtain rfl := hb (by kernel_rfl)
          simp only [fillAt, List.foldl_cons, List.foldl_nil, Act.put, List.setIfInBounds_toArray, List.set_cons_zero, List.set_cons_succ]
          obtain ⟨ic, ib, io⟩ := hI
          have hI : (CurAt ws p code ∧ BoxV w2.heap.size ws [.int .i64 r.z, .int .i64 r.b, .int .i64 r.e, .slice ao r.xs.length cap] ∧ OwnS lo hi ws ao r.xs) := ⟨ic, ib, io⟩
          have b30 := ib.c 0 _ rfl
          have b31 := ib.c 1 _ rfl
          have b32 := ib.c 2 _ rfl
          have b33 := ib.c 3 _ rfl
          have b3F := ib.fr
          refine StepsB.plain ?_ (by rfl) ?_ (CurBox.refl p w2.heap.size _) hI ?_
          rotate_left
          · go_simp
            try with_reducible rfl
          · exact rfl
        · refine ⟨fun _ => ?_, fun h => absurd h (by decide)⟩
          intro b g ws hb hws hI hl
          obtain rfl := hb (by kernel_rfl)
          simp only [fillAt, List.foldl_cons, List.foldl_nil, Act.put, List.setIfInBounds_toArray, List.set_cons_zero, List.set_cons_succ]
          refine StepsB.plain ?_ (by rfl) ?_ (CurBox.refl p w2.heap.size _) hI ?_
          rotate_left
          · go_simp
            try with_reducible rfl
          · exact rfl
        · refine ⟨fun _ => ?_, fun h => absurd h (by decide)⟩
          intro b g ws hb hws hI hl
          obtain rfl := hb (by kernel_rfl)
          have ln1 : g 21 = _ := (show (LineR.is (.pointer (some ⟨p, 0, none⟩)) : LineR (CurBox p w2.heap.size)).p (g 21) ws from linesOf_get 1 hl (by kernel_rfl))
          simp only [fillAt, List.foldl_cons, List.foldl_nil, Act.put, List.setIfInBounds_toArray, List.set_cons_zero, List.set_cons_succ, ln1]
          refine StepsB.call 54 ?_ (by rfl) ?_ ?_
          rotate_left
          · go_simp
            try with_reducible rfl
          · obtain ⟨ic, ib, io⟩ := hI
            refine (l4Data_any p code 6 ws ic (by omega) (by omega)).mono ?_
            rintro e w' ⟨d, rfl, hd, hcu', hx⟩
            exact ⟨_, rfl, CurBox.of hx, ⟨hcu', ib.chg hx (by (try dsimp only); omega), OwnS.chg io hx (fun b h1 h2 h3 => by (try dsimp only at h3); omega)⟩, (show ∃ d : ByteArray, _ from ⟨d, rfl, hd⟩)⟩
        · refine ⟨fun _ => ?_, fun h => absurd h (by decide)⟩
          intro b g ws hb hws hI hl
          obtain rfl := hb (by kernel_rfl)
          have ln0 : g 20 = _ := (show (LineR.is (.agg #[.int .i64 r.z, .int .i64 r.b, .int .i64 r.e, .slice ao r.xs.length cap]) : LineR (CurBox p w2.heap.size)).p (g 20) ws from linesOf_get 0 hl (by kernel_rfl))
          obtain ⟨d, ln2, hd⟩ := (show (LineR.of (fun v => ∃ d : ByteArray, v = .string d ∧ (d.size : Int) ≤ 6) : LineR (CurBox p w2.heap.size)).p (g 22) ws from linesOf_get 2 hl (by kernel_rfl))
          simp only [fillAt, List.foldl_cons, List.foldl_nil, Act.put, List.setIfInBounds_toArray, List.set_cons_zero, List.set_cons_succ, ln0, ln2]
          refine StepsB.call 28 ?_ (by rfl) ?_ ?_
          rotate_left
          · go_simp
            try with_reducible rfl
          · obtain ⟨ic, ib, io⟩ := hI
            refine (wr_spec r d ao cap ws io.read hok.len (by omega) (by omega)).mono ?_
            rintro e w' ⟨ao', cap', rfl, ho, hx⟩
            exact ⟨_, rfl, CurBox.ext hx, ⟨ic.ext hx, ib.ext hx, OwnS.chg io (hx.chg (fun _ => False)) (fun _ _ _ h => h)⟩, (show ∃ (q : Rn) (u : Value) (ao : Option Addr) (cap lo hi : Nat), _ from ⟨_, _, ao', cap', ws.heap.size, w'.heap.size, rfl, (wrR_ok hok hd).mono (by omega), ho, by have := Chg.size hws; (try simp at this); omega, by have := Chg.size hws; (try simp at this); omega, Nat.le_refl _⟩)⟩
        · refine ⟨fun _ => ?_, fun h => absurd h (by decide)⟩
          intro b g ws hb hws hI hl
          obtain rfl := hb (by kernel_rfl)
          obtain ⟨q1, u1, ao1, cap1, lo1, hi1, ln3, k1, k2, k3, k4, k5⟩ := (show (ringTL p (w.heap.size + 1) w2.heap.size (6 * (n0 - (k - 1))) (by omega) : LineR (CurBox p w2.heap.size)).p (g 23) ws from linesOf_get 3 hl (by kernel_rfl))
          simp only [fillAt, List.foldl_cons, List.foldl_nil, Act.put, List.setIfInBounds_toArray, List.set_cons_zero, List.set_cons_succ, ln3]
          refine StepsB.plain ?_ (by rfl) ?_ (CurBox.refl p w2.heap.size _) hI ?_
          rotate_left
          · go_simp
            try with_reducible rfl
          · exact (show ∃ (q : Rn) (u : Value) (ao : Option Addr) (cap lo hi : Nat), _ from ⟨q1, u1, ao1, cap1, lo1, hi1, rfl, k1, k2, k3, k4, k5⟩)
        · refine ⟨fun _ => ?_, fun h => absurd h (by decide)⟩
          intro b g ws hb hws hI hl
          obtain rfl := hb (by kernel_rfl)
          obtain ⟨q1, u1, ao1, cap1, lo1, hi1, ln4, k1, k2, k3, k4, k5⟩ := (show (ringTL p (w.heap.size + 1) w2.heap.size (6 * (n0 - (k - 1))) (by omega) : LineR (CurBox p w2.heap.size)).p (g 19) ws from linesOf_get 4 hl (by kernel_rfl))
          simp only [fillAt, List.foldl_cons, List.foldl_nil, Act.put, List.setIfInBounds_toArray, List.set_cons_zero, List.set_cons_succ, ln4]
          refine StepsB.plain ?_ (by rfl) ?_ (CurBox.refl p w2.heap.size _) hI ?_
          rotate_left
          · go_simp
            try with_reducible rfl
          · exact (show ∃ (q : Rn) (ao : Option Addr) (cap lo hi : Nat), _ from ⟨q1, ao1, cap1, lo1, hi1, rfl, k1, k2, k3, k4, k5⟩)
        · refine ⟨fun _ => ?_, fun h => absurd h (by decide)⟩
          intro b g ws hb hws hI hl
          obtain ⟨q1, u1, ao1, cap1, lo1, hi1, ln4, k1, k2, k3, k4, k5⟩ := (show (ringTL p (w.heap.size + 1) w2.heap.size (6 * (n0 - (k - 1))) (by omega) : LineR (CurBox p w2.heap.size)).p (g 19) ws from linesOf_get 4 hl (by kernel_rfl))
          simp only [fillAt, List.foldl_cons, List.foldl_nil, Act.put, List.setIfInBounds_toArray, List.set_cons_zero, List.set_cons_succ, ln4]
          refine StepsB.plain ?_ (by rfl) ?_ (CurBox.refl p w2.heap.size _) hI ?_
          rotate_left
          · go_simp
            try with_reducible rfl
          · exact trivial
        · refine ⟨fun h => absurd rfl h, fun _ => ?_⟩
          intro g ws hws hI hl
          obtain ⟨q1, ao1, cap1, lo1, hi1, ln5, k1, k2, k3, k4, k5⟩ := (show (ringVL p (w.heap.size + 1) w2.heap.size (6 * (n0 - (k - 1))) (by omega) : LineR (CurBox p w2.heap.size)).p (g 24) ws from linesOf_get 5 hl (by kernel_rfl))
          simp only [fillAt, List.foldl_cons, List.foldl_nil, Act.put, List.setIfInBounds_toArray, List.set_cons_zero, List.set_cons_succ, ln5]
          obtain ⟨ic, ib, io⟩ := hI
          have hI : (CurAt ws p code ∧ BoxV w2.heap.size ws [.int .i64 r.z, .int .i64 r.b, .int .i64 r.e, .slice ao r.xs.length cap] ∧ OwnS lo hi ws ao r.xs) := ⟨ic, ib, io⟩
          have b30 := ib.c 0 _ rfl
          have b31 := ib.c 1 _ rfl
          have b32 := ib.c 2 _ rfl
          have b33 := ib.c 3 _ rfl
          have b3F := ib.fr
          have hset := BoxV.set ib [.int .i64 q1.z, .int .i64 q1.b, .int .i64 q1.e, .slice ao1 q1.xs.length cap1] rfl
          simp only [setFrom, Nat.zero_add, Nat.reduceAdd] at hset
          refine StepsB.store ?_ (by rfl) ?_ ?_ ?_ trivial
          rotate_left
          · go_simp
            try with_reducible rfl
          · exact Chg.mono hset.2 (fun _ _ h => Or.inr h)
          · exact ⟨ic.stays hset.2 (fun b h => by (try dsimp only); omega), q1, ao1, cap1, lo1, hi1, k1, hset.1, OwnS.chg k2 hset.2 (fun b h1 h2 h3 => by (try dsimp only at h3); omega), k3, Or.inr k4, Nat.le_trans k5 hset.2.size⟩
      · intro g w6 hw6 hI hl
        clear hl
        simp only [fillAt, List.foldl_cons, List.foldl_nil, Act.put, List.setIfInBounds_toArray, List.set_cons_zero, List.set_cons_succ]
        obtain ⟨hcu6, hring_6⟩ := hI
        have hg6 : Chg (fun k => k = p ∨ k = w2.heap.size) wr w6 := ((Ext.refl wr).drew.chg _).trans hw6
        have hB2_6 := hide (hB2_r.out.chg hg6 (by (try dsimp only); omega))
        have hgw6 : Chg (fun b => b = p ∨ w.heap.size ≤ b) w w6 := hgwr.trans (hg6.mono (fun b _ h => by (try dsimp only at h ⊢); omega))
        have hz6 : wr.heap.size ≤ w6.heap.size := hg6.size
        clear hw6
        go_wp2_with fail
        refine (l1Once_any p code 2 _ hcu6).mono ?_
        rintro en w7 ⟨bb, rfl, hcu7, hg7⟩
        have hring_7 := hring_6.chg hg7 (by (try dsimp only); omega) (fun b h1 h2 h3 => by (try dsimp only at h3); omega)
        have hB2_7 := hide (hB2_6.out.chg hg7 (by (try dsimp only); omega))
        have hgw7 : Chg (fun b => b = p ∨ w.heap.size ≤ b) w w7 := hgw6.trans (hg7.mono (fun b _ h => Or.inl h))
        have hz7 : w6.heap.size ≤ w7.heap.size := hg7.size
        cases bb
        · go_wp2
          go_roundw
          case rel => exact ⟨k - 1, by go_num, by omega, by omega, hring_7, hB2_7.out, hcu7, hgw7, by omega⟩
          case measure => simp [intOf]; omega
        · clear hok hl64 hb0 hbe hem rbr ror l1_r l2_r l3_r
          obtain ⟨q, ao2, cap2, lo2, hi2, hok, rb7, ro7, l1_7, l2_7, l3_7⟩ := hring_7
          have qb0 := hok.b0
          have qbe := hok.be
          have qem := hok.em
          go_wp2_with fail
          refine wp_region_store 10 (CurBox p w2.heap.size) (pick2 (fun v => CurAt v p code ∧ BoxV w2.heap.size v [.int .i64 q.z, .int .i64 q.b, .int .i64 q.e, .slice ao2 q.xs.length cap2] ∧ OwnS lo2 hi2 v ao2 q.xs) (fun v => CurAt v p code ∧ RingAt (w.heap.size + 1) w2.heap.size (6 * (n0 - (k - 1))) v)) [(LineR.is (.agg #[.int .i64 q.z, .int .i64 q.b, .int .i64 q.e, .slice ao2 q.xs.length cap2]) : LineR (CurBox p w2.heap.size)), (LineR.is (.pointer (some ⟨w2.heap.size, 1, none⟩)) : LineR (CurBox p w2.heap.size)), (LineR.is (.int .i64 q.b) : LineR (CurBox p w2.heap.size)), (LineR.is (.pointer (some ⟨p, 0, none⟩)) : LineR (CurBox p w2.heap.size)), (LineR.of (fun v => ∃ y : Int, v = .int .i64 y ∧ 0 ≤ y ∧ y < 5) : LineR (CurBox p w2.heap.size)), (LineR.of (fun v => ∃ y : Int, v = .int .i64 y) : LineR (CurBox p w2.heap.size)), (ringTL p (w.heap.size + 1) w2.heap.size (6 * (n0 - (k - 1))) (by omega) : LineR (CurBox p w2.heap.size)), (ringTL p (w.heap.size + 1) w2.heap.size (6 * (n0 - (k - 1))) (by omega) : LineR (CurBox p w2.heap.size)), (ringVL p (w.heap.size + 1) w2.heap.size (6 * (n0 - (k - 1))) (by omega) : LineR (CurBox p w2.heap.size)), (LineR.free : LineR (CurBox p w2.heap.size)), (LineR.free : LineR (CurBox p w2.heap.size))] [29, 30, 31, 32, 33, 34, 35, 28, 36, 37] (by kernel_rfl) (by kernel_rfl) (by kernel_rfl) (by kernel_rfl) (by kernel_rfl) (by kernel_rfl) (CurBox.trans p w2.heap.size) (CurBox.refl p w2.heap.size _) (⟨CurAt.drew hcu7, rb7.ext (Ext.refl _).drew, OwnS.chg ro7 ((Ext.refl w7).drew.chg (fun _ => False)) (fun _ _ _ h => h)⟩) ?_ ?_
          · refine Each.cons ?_ (Each.cons ?_ (Each.cons ?_ (Each.cons ?_ (Each.cons ?_ (Each.cons ?_ (Each.cons ?_ (Each.cons ?_ (Each.cons ?_ (Each.cons ?_ (Each.cons ?_ (Each.nil)))))))))))
            · refine ⟨fun _ => ?_, fun h => absurd h (by decide)⟩
              intro b g ws hb hws hI hl
              obtain rfl := hb (by kernel_rfl)
              simp only [fillAt, List.foldl_cons, List.foldl_nil, Act.put, List.setIfInBounds_toArray, List.set_cons_zero, List.set_cons_succ]
              obtain ⟨ic, ib, io⟩ := hI
              have hI : (CurAt ws p code ∧ BoxV w2.heap.size ws [.int .i64 q.z, .int .i64 q.b, .int .i64 q.e, .slice ao2 q.xs.length cap2] ∧ OwnS lo2 hi2 ws ao2 q.xs) := ⟨ic, ib, io⟩
              have b30 := ib.c 0 _ rfl
              have b31 := ib.c 1 _ rfl
              have b32 := ib.c 2 _ rfl
              have b33 := ib.c 3 _ rfl
              have b3F := ib.fr
              refine StepsB.plain ?_ (by rfl) ?_ (CurBox.refl p w2.heap.size _) hI ?_
              rotate_left
              · go_simp
                try with_reducible rfl
              · exact rfl
            · refine ⟨fun _ => ?_, fun h => absurd h (by decide)⟩
              intro b g ws hb hws hI hl
              obtain rfl := hb (by kernel_rfl)
              simp only [fillAt, List.foldl_cons, List.foldl_nil, Act.put, List.setIfInBounds_toArray, List.set_cons_zero, List.set_cons_succ]
              refine StepsB.plain ?_ (by rfl) ?_ (CurBox.refl p w2.heap.size _) hI ?_
              rotate_left
              · go_simp
                try with_reducible rfl
              · exact rfl
            · refine ⟨fun _ => ?_, fun h => absurd h (by decide)⟩
              intro b g ws hb hws hI hl
              obtain rfl := hb (by kernel_rfl)
              have ln1 : g 30 = _ := (show (LineR.is (.pointer (some ⟨w2.heap.size, 1, none⟩)) : LineR (CurBox p w2.heap.size)).p (g 30) ws from linesOf_get 1 hl (by kernel_rfl))
              simp only [fillAt, List.foldl_cons, List.foldl_nil, Act.put, List.setIfInBounds_toArray, List.set_cons_zero, List.set_cons_succ, ln1]
              obtain ⟨ic, ib, io⟩ := hI
              have hI : (CurAt ws p code ∧ BoxV w2.heap.size ws [.int .i64 q.z, .int .i64 q.b, .int .i64 q.e, .slice ao2 q.xs.length cap2] ∧ OwnS lo2 hi2 ws ao2 q.xs) := ⟨ic, ib, io⟩
              have b30 := ib.c 0 _ rfl
              have b31 := ib.c 1 _ rfl
              have b32 := ib.c 2 _ rfl
              have b33 := ib.c 3 _ rfl
              have b3F := ib.fr
              refine StepsB.plain ?_ (by rfl) ?_ (CurBox.refl p w2.heap.size _) hI ?_
              rotate_left
              · go_simp
                try with_reducible rfl
              · exact rfl
            · refine ⟨fun _ => ?_, fun h => absurd h (by decide)⟩
              intro b g ws hb hws hI hl
              obtain rfl := hb (by kernel_rfl)
              simp only [fillAt, List.foldl_cons, List.foldl_nil, Act.put, List.setIfInBounds_toArray, List.set_cons_zero, List.set_cons_succ]
              refine StepsB.plain ?_ (by rfl) ?_ (CurBox.refl p w2.heap.size _) hI ?_
              rotate_left
              · go_simp
                try with_reducible rfl
              · exact rfl
            · refine ⟨fun _ => ?_, fun h => absurd h (by decide)⟩
              intro b g ws hb hws hI hl
              obtain rfl := hb (by kernel_rfl)
              have ln3 : g 32 = _ := (show (LineR.is (.pointer (some ⟨p, 0, none⟩)) : LineR (CurBox p w2.heap.size)).p (g 32) ws from linesOf_get 3 hl (by kernel_rfl))
              simp only [fillAt, List.foldl_cons, List.foldl_nil, Act.put, List.setIfInBounds_toArray, List.set_cons_zero, List.set_cons_succ, ln3]
              refine StepsB.call 55 ?_ (by rfl) ?_ ?_
              rotate_left
              · go_simp
                try with_reducible rfl
              · obtain ⟨ic, ib, io⟩ := hI
                refine (l1Below_pos p code 5 ws (by omega) ic).mono ?_
                rintro e w' ⟨y, rfl, ⟨y0, y1⟩, hcu', hx⟩
                exact ⟨_, rfl, CurBox.of hx, ⟨hcu', ib.chg hx (by (try dsimp only); omega), OwnS.chg io hx (fun b h1 h2 h3 => by (try dsimp only at h3); omega)⟩, (show ∃ y : Int, _ from ⟨y, rfl, y0, y1⟩)⟩
            · refine ⟨fun _ => ?_, fun h => absurd h (by decide)⟩
              intro b g ws hb hws hI hl
              obtain rfl := hb (by kernel_rfl)
              have ln2 : g 31 = _ := (show (LineR.is (.int .i64 q.b) : LineR (CurBox p w2.heap.size)).p (g 31) ws from linesOf_get 2 hl (by kernel_rfl))
              obtain ⟨y, ln4, y0, y1⟩ := (show (LineR.of (fun v => ∃ y : Int, v = .int .i64 y ∧ 0 ≤ y ∧ y < 5) : LineR (CurBox p w2.heap.size)).p (g 33) ws from linesOf_get 4 hl (by kernel_rfl))
              simp only [fillAt, List.foldl_cons, List.foldl_nil, Act.put, List.setIfInBounds_toArray, List.set_cons_zero, List.set_cons_succ, ln2, ln4]
              refine StepsB.plain ?_ (by rfl) ?_ (CurBox.refl p w2.heap.size _) hI ?_
              rotate_left
              · go_simp
                try with_reducible rfl
              · exact (show ∃ y : Int, _ from ⟨_, rfl⟩)
            · refine ⟨fun _ => ?_, fun h => absurd h (by decide)⟩
              intro b g ws hb hws hI hl
              obtain rfl := hb (by kernel_rfl)
              have ln0 : g 29 = _ := (show (LineR.is (.agg #[.int .i64 q.z, .int .i64 q.b, .int .i64 q.e, .slice ao2 q.xs.length cap2]) : LineR (CurBox p w2.heap.size)).p (g 29) ws from linesOf_get 0 hl (by kernel_rfl))
              obtain ⟨y, ln5⟩ := (show (LineR.of (fun v => ∃ y : Int, v = .int .i64 y) : LineR (CurBox p w2.heap.size)).p (g 34) ws from linesOf_get 5 hl (by kernel_rfl))
              simp only [fillAt, List.foldl_cons, List.foldl_nil, Act.put, List.setIfInBounds_toArray, List.set_cons_zero, List.set_cons_succ, ln0, ln5]
              refine StepsB.call 26 ?_ (by rfl) ?_ ?_
              rotate_left
              · go_simp
                try with_reducible rfl
              · obtain ⟨ic, ib, io⟩ := hI
                refine (dr_spec q y ao2 cap2 ws io.read hok.len (by omega)).mono ?_
                rintro e w' ⟨ao', cap', rfl, ho, hx⟩
                exact ⟨_, rfl, CurBox.ext hx, ⟨ic.ext hx, ib.ext hx, OwnS.chg io (hx.chg (fun _ => False)) (fun _ _ _ h => h)⟩, (show ∃ (q : Rn) (u : Value) (ao : Option Addr) (cap lo hi : Nat), _ from ⟨_, _, ao', cap', ws.heap.size, w'.heap.size, rfl, drR_ok hok, ho, by have := Chg.size hws; (try simp at this); omega, by have := Chg.size hws; (try simp at this); omega, Nat.le_refl _⟩)⟩
            · refine ⟨fun _ => ?_, fun h => absurd h (by decide)⟩
              intro b g ws hb hws hI hl
              obtain rfl := hb (by kernel_rfl)
              obtain ⟨q1, u1, ao1, cap1, lo1, hi1, ln6, k1, k2, k3, k4, k5⟩ := (show (ringTL p (w.heap.size + 1) w2.heap.size (6 * (n0 - (k - 1))) (by omega) : LineR (CurBox p w2.heap.size)).p (g 35) ws from linesOf_get 6 hl (by kernel_rfl))
              simp only [fillAt, List.foldl_cons, List.foldl_nil, Act.put, List.setIfInBounds_toArray, List.set_cons_zero, List.set_cons_succ, ln6]
              refine StepsB.plain ?_ (by rfl) ?_ (CurBox.refl p w2.heap.size _) hI ?_
              rotate_left
              · go_simp
                try with_reducible rfl
              · exact (show ∃ (q : Rn) (u : Value) (ao : Option Addr) (cap lo hi : Nat), _ from ⟨q1, u1, ao1, cap1, lo1, hi1, rfl, k1, k2, k3, k4, k5⟩)
            · refine ⟨fun _ => ?_, fun h => absurd h (by decide)⟩
              intro b g ws hb hws hI hl
              obtain rfl := hb (by kernel_rfl)
              obtain ⟨q1, u1, ao1, cap1, lo1, hi1, ln7, k1, k2, k3, k4, k5⟩ := (show (ringTL p (w.heap.size + 1) w2.heap.size (6 * (n0 - (k - 1))) (by omega) : LineR (CurBox p w2.heap.size)).p (g 28) ws from linesOf_get 7 hl (by kernel_rfl))
              simp only [fillAt, List.foldl_cons, List.foldl_nil, Act.put, List.setIfInBounds_toArray, List.set_cons_zero, List.set_cons_succ, ln7]
              refine StepsB.plain ?_ (by rfl) ?_ (CurBox.refl p w2.heap.size _) hI ?_
              rotate_left
              · go_simp
                try with_reducible rfl
              · exact (show ∃ (q : Rn) (ao : Option Addr) (cap lo hi : Nat), _ from ⟨q1, ao1, cap1, lo1, hi1, rfl, k1, k2, k3, k4, k5⟩)
            · refine ⟨fun _ => ?_, fun h => absurd h (by decide)⟩
              intro b g ws hb hws hI hl
              obtain ⟨q1, u1, ao1, cap1, lo1, hi1, ln7, k1, k2, k3, k4, k5⟩ := (show (ringTL p (w.heap.size + 1) w2.heap.size (6 * (n0 - (k - 1))) (by omega) : LineR (CurBox p w2.heap.size)).p (g 28) ws from linesOf_get 7 hl (by kernel_rfl))
              simp only [fillAt, List.foldl_cons, List.foldl_nil, Act.put, List.setIfInBounds_toArray, List.set_cons_zero, List.set_cons_succ, ln7]
              refine StepsB.plain ?_ (by rfl) ?_ (CurBox.refl p w2.heap.size _) hI ?_
              rotate_left
              · go_simp
                try with_reducible rfl
              · exact trivial
            · refine ⟨fun h => absurd rfl h, fun _ => ?_⟩
              intro g ws hws hI hl
              obtain ⟨q1, ao1, cap1, lo1, hi1, ln8, k1, k2, k3, k4, k5⟩ := (show (ringVL p (w.heap.size + 1) w2.heap.size (6 * (n0 - (k - 1))) (by omega) : LineR (CurBox p w2.heap.size)).p (g 36) ws from linesOf_get 8 hl (by kernel_rfl))
              simp only [fillAt, List.foldl_cons, List.foldl_nil, Act.put, List.setIfInBounds_toArray, List.set_cons_zero, List.set_cons_succ, ln8]
              obtain ⟨ic, ib, io⟩ := hI
              have hI : (CurAt ws p code ∧ BoxV w2.heap.size ws [.int .i64 q.z, .int .i64 q.b, .int .i64 q.e, .slice ao2 q.xs.length cap2] ∧ OwnS lo2 hi2 ws ao2 q.xs) := ⟨ic, ib, io⟩
              have b30 := ib.c 0 _ rfl
              have b31 := ib.c 1 _ rfl
              have b32 := ib.c 2 _ rfl
              have b33 := ib.c 3 _ rfl
              have b3F := ib.fr
              have hset := BoxV.set ib [.int .i64 q1.z, .int .i64 q1.b, .int .i64 q1.e, .slice ao1 q1.xs.length cap1] rfl
              simp only [setFrom, Nat.zero_add, Nat.reduceAdd] at hset
              refine StepsB.store ?_ (by rfl) ?_ ?_ ?_ trivial
              rotate_left
              · go_simp
                try with_reducible rfl
              · exact Chg.mono hset.2 (fun _ _ h => Or.inr h)
              · exact ⟨ic.stays hset.2 (fun b h => by (try dsimp only); omega), q1, ao1, cap1, lo1, hi1, k1, hset.1, OwnS.chg k2 hset.2 (fun b h1 h2 h3 => by (try dsimp only at h3); omega), k3, Or.inr k4, Nat.le_trans k5 hset.2.size⟩
          · intro g w8 hw8 hI hl
            clear hl
            simp only [fillAt, List.foldl_cons, List.foldl_nil, Act.put, List.setIfInBounds_toArray, List.set_cons_zero, List.set_cons_succ]
            obtain ⟨hcu8, hring_8⟩ := hI
            have hg8 : Chg (fun k => k = p ∨ k = w2.heap.size) w7 w8 := ((Ext.refl w7).drew.chg _).trans hw8
            have hB2_8 := hide (hB2_7.out.chg hg8 (by (try dsimp only); omega))
            have hgw8 : Chg (fun b => b = p ∨ w.heap.size ≤ b) w w8 := hgw7.trans (hg8.mono (fun b _ h => by (try dsimp only at h ⊢); omega))
            have hz8 : w7.heap.size ≤ w8.heap.size := hg8.size
            clear hw8
            go_wp2
            go_roundw
            case rel => exact ⟨k - 1, by go_num, by omega, by omega, hring_8, hB2_8.out, hcu8, hgw8, by omega⟩
            case measure => simp [intOf]; omega
    · obtain rfl : k = 0 := by omega
      obtain ⟨r, ao, cap, lo, hi, hok, rbr, ror, l1_r, l2_r, l3_r⟩ := hring_r.out
      have hB3_r := hide rbr
      have hown_r := hide ror
      clear rbr ror
      have hany := hok.any (by omega)
      have b30 := hB3_r.out.c 0 _ rfl
      have b31 := hB3_r.out.c 1 _ rfl
      have b32 := hB3_r.out.c 2 _ rfl
      have b33 := hB3_r.out.c 3 _ rfl
      have b3F := hB3_r.out.fr
      have b20 := hB2_r.out.c 0 _ rfl
      have b21 := hB2_r.out.c 1 _ rfl
      have b22 := hB2_r.out.c 2 _ rfl
      have b23 := hB2_r.out.c 3 _ rfl
      have b2F := hB2_r.out.fr
      have k3_r : w2.heap.size < wr.heap.size := (by omega)
      have k2_r : w.heap.size < wr.heap.size := (by omega)
      go_wp2_with fail
      refine (l1Below_pos p code 16 _ (by omega) hcur).mono ?_
      rintro en w4 ⟨q, rfl, ⟨q0, q1⟩, hcu4, hg4⟩
      have hB3_4 := hide (hB3_r.out.chg hg4 (by (try dsimp only); omega))
      have hB2_4 := hide (hB2_r.out.chg hg4 (by (try dsimp only); omega))
      have hown_4 := hide (OwnS.chg hown_r.out hg4 (fun b h1 h2 h3 => by (try dsimp only at h3); omega))
      have hgw4 : Chg (fun b => b = p ∨ w.heap.size ≤ b) w w4 := hgwr.trans (hg4.mono (fun b _ h => Or.inl h))
      have hz4 : wr.heap.size ≤ w4.heap.size := hg4.size
      clear b30 b31 b32 b33 b3F b20 b21 b22 b23 b2F
      have b30 := hB3_4.out.c 0 _ rfl
      have b31 := hB3_4.out.c 1 _ rfl
      have b32 := hB3_4.out.c 2 _ rfl
      have b33 := hB3_4.out.c 3 _ rfl
      have b3F := hB3_4.out.fr
      have b20 := hB2_4.out.c 0 _ rfl
      have b21 := hB2_4.out.c 1 _ rfl
      have b22 := hB2_4.out.c 2 _ rfl
      have b23 := hB2_4.out.c 3 _ rfl
      have b2F := hB2_4.out.fr
      have k3_4 : w2.heap.size < w4.heap.size := (by omega)
      have k2_4 : w.heap.size < w4.heap.size := (by omega)
      by_cases e0 : q = 0
      · have e0e : (q == 0) = true := by simp [e0]
        clear e0
        go_wp2_with fail
        refine (l1PickInt_new p code [0, 3, 64, 128] 3 w4 hcu4 (by simp) (by simp)).mono ?_
        rintro en w5 ⟨y, rfl, hy, hcu5, hgx5⟩
        have hg5 : Chg (fun k => k = p) w4 w5 := Chg.trans (((Ext.refl w4).alloc _).chg _) hgx5
        simp only [List.mem_cons, List.not_mem_nil, or_false] at hy
        have hy0 : 0 ≤ y ∧ y ≤ 128 := by omega
        clear hy
        have hB3_5 := hide (hB3_4.out.chg hg5 (by (try dsimp only); omega))
        have hB2_5 := hide (hB2_4.out.chg hg5 (by (try dsimp only); omega))
        have hown_5 := hide (OwnS.chg hown_4.out hg5 (fun b h1 h2 h3 => by (try dsimp only at h3); omega))
        have hgw5 : Chg (fun b => b = p ∨ w.heap.size ≤ b) w w5 := hgw4.trans (hg5.mono (fun b _ h => Or.inl h))
        have hz5 : w4.heap.size ≤ w5.heap.size := hg5.size
        clear b30 b31 b32 b33 b3F b20 b21 b22 b23 b2F
        have b30 := hB3_5.out.c 0 _ rfl
        have b31 := hB3_5.out.c 1 _ rfl
        have b32 := hB3_5.out.c 2 _ rfl
        have b33 := hB3_5.out.c 3 _ rfl
        have b3F := hB3_5.out.fr
        have b20 := hB2_5.out.c 0 _ rfl
        have b21 := hB2_5.out.c 1 _ rfl
        have b22 := hB2_5.out.c 2 _ rfl
        have b23 := hB2_5.out.c 3 _ rfl
        have b2F := hB2_5.out.fr
        have k3_5 : w2.heap.size < w5.heap.size := (by omega)
        have k2_5 : w.heap.size < w5.heap.size := (by omega)
        have hset1 := BoxV.set1 hB3_5.out (j := 0) (by simp) (.int .i64 y)
        simp only [List.set_cons_zero, List.set_cons_succ] at hset1
        have hB2_6 := hide (hB2_5.out.chg hset1.2 (by (try dsimp only); omega))
        have hown_6 := hide (OwnS.chg hown_5.out hset1.2 (fun b h1 h2 h3 => by (try dsimp only at h3); omega))
        have hcu6 := hcu5.stays hset1.2 (fun b h => by (try dsimp only); omega)
        have hgw6 := hgw5.trans (hset1.2.mono (T := fun b => b = p ∨ w.heap.size ≤ b) (fun b _ h => by (try dsimp only at h ⊢); omega))
        have hz6 := hset1.2.size
        have hset := BoxV.set hB2_6.out [.int .i64 y, .int .i64 r.b, .int .i64 r.e, .slice ao r.xs.length cap] rfl
        simp only [setFrom, Nat.zero_add, Nat.reduceAdd] at hset
        go_wp2
        refine bodyPost_ret (v := .agg #[.int .i64 y, .int .i64 r.b, .int .i64 r.e, .slice ao r.xs.length cap]) (by simp [results, Try.results53, go_sem, *]) rfl ⟨⟨y, r.b, r.e, r.xs⟩, ao, cap, rfl, ⟨hany.len, hy0.1, hy0.2, hany.b0, hany.b1, hany.e0, hany.e1⟩, ?_, ?_, ?_⟩
        · exact (OwnS.chg hown_6.out hset.2 (fun b h1 h2 h3 => by (try dsimp only at h3); omega)).mono (by omega) (by have z1 := hset.2.size; omega)
        · exact (hcu6).stays hset.2 (fun b h => by (try dsimp only); omega)
        · exact (hgw6.trans (hset.2.mono (T := fun b => b = p ∨ w.heap.size ≤ b) (fun b _ h => by (try dsimp only at h ⊢); omega))).mono (fun b hb h => by (try dsimp only at h ⊢); omega)
      · have e0e : (q == 0) = false := by simp [e0]
        by_cases e1 : q = 1
        · have e1e : (q == 1) = true := by simp [e1]
          clear e0 e1
          go_wp2_with fail
          refine (l1PickInt_new p code [-1, 100, 4611686018427387904] 3 w4 hcu4 (by simp) (by simp)).mono ?_
          rintro en w5 ⟨y, rfl, hy, hcu5, hgx5⟩
          have hg5 : Chg (fun k => k = p) w4 w5 := Chg.trans (((Ext.refl w4).alloc _).chg _) hgx5
          simp only [List.mem_cons, List.not_mem_nil, or_false] at hy
          have hy0 : -1 ≤ y ∧ y ≤ 4611686018427387904 := by omega
          clear hy
          have hB3_5 := hide (hB3_4.out.chg hg5 (by (try dsimp only); omega))
          have hB2_5 := hide (hB2_4.out.chg hg5 (by (try dsimp only); omega))
          have hown_5 := hide (OwnS.chg hown_4.out hg5 (fun b h1 h2 h3 => by (try dsimp only at h3); omega))
          have hgw5 : Chg (fun b => b = p ∨ w.heap.size ≤ b) w w5 := hgw4.trans (hg5.mono (fun b _ h => Or.inl h))
          have hz5 : w4.heap.size ≤ w5.heap.size := hg5.size
          clear b30 b31 b32 b33 b3F b20 b21 b22 b23 b2F
          have b30 := hB3_5.out.c 0 _ rfl
          have b31 := hB3_5.out.c 1 _ rfl
          have b32 := hB3_5.out.c 2 _ rfl
          have b33 := hB3_5.out.c 3 _ rfl
          have b3F := hB3_5.out.fr
          have b20 := hB2_5.out.c 0 _ rfl
          have b21 := hB2_5.out.c 1 _ rfl
          have b22 := hB2_5.out.c 2 _ rfl
          have b23 := hB2_5.out.c 3 _ rfl
          have b2F := hB2_5.out.fr
          have k3_5 : w2.heap.size < w5.heap.size := (by omega)
          have k2_5 : w.heap.size < w5.heap.size := (by omega)
          have hset1 := BoxV.set1 hB3_5.out (j := 2) (by simp) (.int .i64 y)
          simp only [List.set_cons_zero, List.set_cons_succ] at hset1
          have hB2_6 := hide (hB2_5.out.chg hset1.2 (by (try dsimp only); omega))
          have hown_6 := hide (OwnS.chg hown_5.out hset1.2 (fun b h1 h2 h3 => by (try dsimp only at h3); omega))
          have hcu6 := hcu5.stays hset1.2 (fun b h => by (try dsimp only); omega)
          have hgw6 := hgw5.trans (hset1.2.mono (T := fun b => b = p ∨ w.heap.size ≤ b) (fun b _ h => by (try dsimp only at h ⊢); omega))
          have hz6 := hset1.2.size
          have hset := BoxV.set hB2_6.out [.int .i64 r.z, .int .i64 r.b, .int .i64 y, .slice ao r.xs.length cap] rfl
          simp only [setFrom, Nat.zero_add, Nat.reduceAdd] at hset
          go_wp2
          refine bodyPost_ret (v := .agg #[.int .i64 r.z, .int .i64 r.b, .int .i64 y, .slice ao r.xs.length cap]) (by simp [results, Try.results53, go_sem, *]) rfl ⟨⟨r.z, r.b, y, r.xs⟩, ao, cap, rfl, ⟨hany.len, hany.z0, hany.z1, hany.b0, hany.b1, hy0.1, hy0.2⟩, ?_, ?_, ?_⟩
          · exact (OwnS.chg hown_6.out hset.2 (fun b h1 h2 h3 => by (try dsimp only at h3); omega)).mono (by omega) (by have z1 := hset.2.size; omega)
          · exact (hcu6).stays hset.2 (fun b h => by (try dsimp only); omega)
          · exact (hgw6.trans (hset.2.mono (T := fun b => b = p ∨ w.heap.size ≤ b) (fun b _ h => by (try dsimp only at h ⊢); omega))).mono (fun b hb h => by (try dsimp only at h ⊢); omega)
        · have e1e : (q == 1) = false := by simp [e1]
          clear e0 e1
          have hset := BoxV.set hB2_4.out [.int .i64 r.z, .int .i64 r.b, .int .i64 r.e, .slice ao r.xs.length cap] rfl
          simp only [setFrom, Nat.zero_add, Nat.reduceAdd] at hset
          go_wp2
          refine bodyPost_ret (v := .agg #[.int .i64 r.z, .int .i64 r.b, .int .i64 r.e, .slice ao r.xs.length cap]) (by simp [results, Try.results53, go_sem, *]) rfl ⟨r, ao, cap, rfl, hany, ?_, ?_, ?_⟩
          · exact (OwnS.chg hown_4.out hset.2 (fun b h1 h2 h3 => by (try dsimp only at h3); omega)).mono (by omega) (by have z1 := hset.2.size; omega)
          · exact (hcu4).stays hset.2 (fun b h => by (try dsimp only); omega)
          · exact (hgw4.trans (hset.2.mono (T := fun b => b = p ∨ w.heap.size ≤ b) (fun b _ h => by (try dsimp only at h ⊢); omega))).mono (fun b hb h => by (try dsimp only at h ⊢); omega)
end Go.Proofs.Yteebkiochnhnhaa
