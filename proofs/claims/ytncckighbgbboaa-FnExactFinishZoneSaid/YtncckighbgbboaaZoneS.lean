/- Plain lemmas on what the printed functions answer: numbers and lists alone. -/
import Derived.Test.YtncckighbgbboaaPBx0
import Derived.Test.YtncckighbgbboaaPBx1
import Derived.Test.YtncckighbgbboaaPBx2
import Derived.Test.YtncckighbgbboaaPBx4
import Derived.Test.YtncckighbgbboaaNums
import Derived.Test.YtncckighbgbboaaMarkTexts
namespace Go.Proofs.Ytncckighbgbboaa.Pure
open Go.RowKit Go.Proofs.Ytncckighbgbboaa.PB Go.Proofs.YtncckighbgbboaaW.PrintWords Go.Proofs.YtncckighbgbboaaW.PrintLast
set_option linter.unusedVariables false
set_option linter.unusedSimpArgs false

theorem drop_rd120 (l : List S120) (i : Nat) (h : i < l.length) : l.drop i = rd_T120 l (i : Int) :: l.drop (i + 1) := by
  rw [List.drop_eq_getElem_cons h]
  simp [rd_T120, List.getD_eq_getElem?_getD, h]
theorem take_rd120 (l : List S120) (i : Nat) (h : i < l.length) : l.take (i + 1) = l.take i ++ [rd_T120 l (i : Int)] := by
  rw [List.take_succ_eq_append_getElem h]
  simp [rd_T120, List.getD_eq_getElem?_getD, h]
theorem mem_rd120 (l : List S120) (i : Nat) (h : i < l.length) : rd_T120 l (i : Int) ∈ l := by
  have e : rd_T120 l (i : Int) = l[i] := by simp [rd_T120, List.getD_eq_getElem?_getD, h]
  rw [e]
  exact List.getElem_mem h
theorem drop_rd83 (l : List S83) (i : Nat) (h : i < l.length) : l.drop i = rd_T83 l (i : Int) :: l.drop (i + 1) := by
  rw [List.drop_eq_getElem_cons h]
  simp [rd_T83, List.getD_eq_getElem?_getD, h]
theorem take_rd83 (l : List S83) (i : Nat) (h : i < l.length) : l.take (i + 1) = l.take i ++ [rd_T83 l (i : Int)] := by
  rw [List.take_succ_eq_append_getElem h]
  simp [rd_T83, List.getD_eq_getElem?_getD, h]
theorem mem_rd83 (l : List S83) (i : Nat) (h : i < l.length) : rd_T83 l (i : Int) ∈ l := by
  have e : rd_T83 l (i : Int) = l[i] := by simp [rd_T83, List.getD_eq_getElem?_getD, h]
  rw [e]
  exact List.getElem_mem h
/-- what toZone makes of an element -/
def cvZone (x : S120) : S83 := ⟨x.f0, x.f1, x.f2⟩
theorem toZoneS_l0 (l : List S120) (hb : l.length ≤ 1048576) : ∀ (d i : Nat), i + d = l.length →
    Ev (fun k => laws_toZoneS.l0 k l ((l.take i).map cvZone ++ List.replicate d z83) (i : Int)) (l.map cvZone)
  | 0, i, h => Ev.stepc (fun k => by
      simp only [laws_toZoneS.l0]
      rw [if_neg (by omega), List.take_of_length_le (by omega)]
      simp)
  | d + 1, i, h => by
    have ih := toZoneS_l0 l hb d (i + 1) (by omega)
    refine Ev.step (f := fun k => laws_toZoneS.l0 k l ((l.take (i + 1)).map cvZone ++ List.replicate d z83) ((i + 1 : Nat) : Int)) (fun k => ?_) ih
    simp only [laws_toZoneS.l0, laws_toZone.f, Option.bind_some]
    have hl : ((l.take i).map cvZone).length = i := by rw [List.length_map, List.length_take]; omega
    have e : ((l.take i).map cvZone ++ List.replicate (d + 1) z83).set (i : Int).toNat (cvZone (rd_T120 l (i : Int))) = (l.take (i + 1)).map cvZone ++ List.replicate d z83 := by
      rw [List.replicate_succ, Int.toNat_natCast, List.set_append, take_rd120 l i (by omega), hl]
      simp
    rw [if_pos (by omega), if_pos (by omega), if_pos (by simp; omega), wnat (by omega)]
    exact congrArg (fun q => laws_toZoneS.l0 k l q ((i + 1 : Nat) : Int)) e
/-- toZoneS copies a list -/
theorem toZoneS_ev (l : List S120) (hb : l.length ≤ 1048576) : Ev (fun k => laws_toZoneS.f k l) (l.map cvZone) := by
  have h := toZoneS_l0 l hb l.length 0 (by omega)
  have h1 : (0 : Int) ≤ (l.length : Int) := by omega
  unfold laws_toZoneS.f
  simp only [if_pos h1, Int.toNat_natCast]
  rw [show (fun k => if l.length ≤ 8796093022208 then laws_toZoneS.l0 k l (List.replicate l.length z83) 0 else none) = fun k => laws_toZoneS.l0 k l (List.replicate l.length z83) 0 from by funext k; rw [if_pos (by omega)]]
  simpa using h
theorem eqZoneS_l0 (a : List S83) (hb : a.length ≤ 1099511627776) : ∀ (d i : Nat), i + d = a.length → Ev (fun k => laws_eqZoneS.l0 k a a (i : Int)) true
  | 0, i, h => Ev.stepc (fun k => by
      simp only [laws_eqZoneS.l0]
      rw [if_neg (by omega)])
  | d + 1, i, h => by
    refine Ev.step (fun k => ?_) (eqZoneS_l0 a hb d (i + 1) (by omega))
    simp only [laws_eqZoneS.l0, laws_eqZone.f]
    rw [if_pos (by omega), if_pos (by omega), if_pos (by omega), wnat (by omega)]
    simp
/-- eqZoneS says yes of a list and itself -/
theorem eqZoneS_self (a : List S83) (hb : a.length ≤ 1099511627776) : Ev (fun k => laws_eqZoneS.f k a a) true := by
  unfold laws_eqZoneS.f
  simp only [if_true]
  exact eqZoneS_l0 a hb a.length 0 (by omega)
theorem szZoneS_l0 (l : List S120) (hb : l.length ≤ 1048576) (hw : ∀ x ∈ l, wf120 x) : ∀ (d i : Nat) (left : Int), i + d = l.length → 0 ≤ left → left ≤ 1048576 →
    ∃ r, Ev (fun k => laws_szZoneS.l0 k l left (i : Int)) r ∧ (0 ≤ r → ∀ x ∈ l.drop i, x.f0.size ≤ 1048576)
  | 0, i, left, h, h0, h1 => ⟨left, Ev.stepc (fun k => by
      simp only [laws_szZoneS.l0]
      rw [if_neg (by omega)]), fun _ x hx => by rw [List.drop_eq_nil_of_le (by omega)] at hx; cases hx⟩
  | d + 1, i, left, h, h0, h1 => by
    have hs : ((rd_T120 l (i : Int)).f0).size ≤ maxLen := (hw _ (mem_rd120 l i (by omega))).1
    unfold maxLen at hs
    have e1 : wrap64 (left - (((rd_T120 l (i : Int)).f0).size : Int)) = left - (((rd_T120 l (i : Int)).f0).size : Int) := w64 (by omega) (by omega)
    by_cases c : left - (((rd_T120 l (i : Int)).f0).size : Int) < 0
    · refine ⟨-1, Ev.stepc (fun k => ?_), fun h => by omega⟩
      simp only [laws_szZoneS.l0, laws_szZone.f]
      rw [if_pos (by omega), if_pos (by omega), e1, if_pos c, Option.bind_some, if_pos (by omega)]
    · obtain ⟨r, hr, hx⟩ := szZoneS_l0 l hb hw d (i + 1) (left - (((rd_T120 l (i : Int)).f0).size : Int)) (by omega) (by omega) (by omega)
      refine ⟨r, Ev.step (fun k => ?_) hr, fun h x hxm => ?_⟩
      · simp only [laws_szZoneS.l0, laws_szZone.f]
        rw [if_pos (by omega), if_pos (by omega), e1, if_neg c, Option.bind_some, if_neg c, wnat (by omega)]
      · rw [drop_rd120 l i (by omega)] at hxm
        rcases List.mem_cons.1 hxm with e | e
        · rw [e]
          show ((rd_T120 l (i : Int)).f0).size ≤ 1048576
          omega
        · exact hx h x e
/-- what szZoneS tells: where it is not below 0, there are not too many elements, and their texts are not too long -/
theorem szZoneS_ev (l : List S120) (hm : l.length ≤ maxLen) (hw : ∀ x ∈ l, wf120 x) : ∃ r, Ev (fun k => laws_szZoneS.f k l 1048576) r ∧ (0 ≤ r → l.length ≤ 1048576 ∧ ∀ x ∈ l, x.f0.size ≤ 1048576) := by
  unfold maxLen at hm
  unfold laws_szZoneS.f
  have e1 : wrap64 (1048576 - (l.length : Int)) = 1048576 - (l.length : Int) := w64 (by omega) (by omega)
  by_cases c : (1048576 : Int) - (l.length : Int) < 0
  · refine ⟨-1, ?_, fun h => by omega⟩
    rw [e1]
    simp only [if_pos c]
    exact Ev.now _
  · obtain ⟨r, hr, hx⟩ := szZoneS_l0 l (by omega) hw l.length 0 (1048576 - (l.length : Int)) (by omega) (by omega) (by omega)
    refine ⟨r, ?_, fun h => ⟨by omega, fun x hx0 => hx h x (by simpa using hx0)⟩⟩
    rw [e1]
    simp only [if_neg c]
    exact hr
theorem rd_set83 (l : List S83) (i : Nat) (v : S83) (h : i < l.length) : rd_T83 (l.set i v) (i : Int) = v := by
  simp [rd_T83, List.getD_eq_getElem?_getD, h]
noncomputable def mkZone (a : Int) : S83 := ⟨mt (a), (a + 1), (Int.tmod (a + 1 + 1) 3 == 0)⟩
noncomputable def mksZone (m : Int) : Nat → List S83
  | 0 => []
  | n + 1 => mkZone m :: mksZone (m + 3) n
theorem mksZone_length : ∀ (m : Int) (n : Nat), (mksZone m n).length = n
  | _, 0 => rfl
  | m, n + 1 => by simp [mksZone, mksZone_length (m + 3) n]
theorem mksZone_snoc : ∀ (m : Int) (n : Nat), mksZone m (n + 1) = mksZone m n ++ [mkZone (m + 3 * (n : Int))]
  | m, 0 => by simp [mksZone]
  | m, n + 1 => by
    rw [mksZone, mksZone_snoc (m + 3) n]
    simp only [mksZone, List.cons_append, List.cons.injEq, true_and]
    congr 3
    omega
theorem mksZone_rd : ∀ (j n : Nat) (m : Int), j < n → rd_T83 (mksZone m n) (j : Int) = mkZone (m + 3 * (j : Int))
  | 0, n + 1, m, _ => by simp [rd_T83, mksZone]
  | j + 1, n + 1, m, h => by
    have ih := mksZone_rd j n (m + 3) (by omega)
    simp only [rd_T83, Int.toNat_natCast, mksZone, List.getD_cons_succ] at ih ⊢
    rw [ih]
    congr 1
    omega
theorem markZoneS_l0 (m : Int) (n : Nat) (hm : 0 ≤ m) (hm2 : m ≤ 1099511627776) (hn : n ≤ 1099511627776) : ∀ (q : List S83) (i : Nat) (a : Int), a = m + 3 * (i : Int) → i + q.length = n →
    Ev (fun k => laws_markZoneS.l0 k (mksZone m i ++ q) a (i : Int)) (m + 3 * (n : Int), mksZone m n)
  | [], i, a, ha, h => by
    have hi : i = n := by simpa using h
    subst hi
    subst ha
    refine Ev.stepc (fun k => ?_)
    simp only [laws_markZoneS.l0]
    rw [if_neg (by simp [mksZone_length])]
    simp
  | x :: q, i, a, ha, h => by
    have h' : i + q.length + 1 = n := by simpa [Nat.add_assoc] using h
    have ih := markZoneS_l0 m n hm hm2 hn q (i + 1) (a + 1 + 1 + 1) (by omega) (by omega)
    have hl : i < (mksZone m i ++ x :: q).length := by simp [mksZone_length]
    refine Ev.stepE (K := 70) (f := fun k => laws_markZoneS.l0 k (mksZone m (i + 1) ++ q) (a + 1 + 1 + 1) ((i + 1 : Nat) : Int)) (fun k hk => ?_) ih
    have t0 := mt_eq (a) (by omega) k hk
    have es : (mksZone m i ++ x :: q).set i (mkZone a) = mksZone m (i + 1) ++ q := by
      rw [mksZone_snoc, List.set_append, ha]
      simp [mksZone_length]
    have hr := fun v => rd_set83 (mksZone m i ++ x :: q) i v hl
    have h0 : (0 : Int) ≤ (i : Int) := by omega
    have h1 : (i : Int) < ((mksZone m i ++ x :: q).length : Int) := by omega
    have hw : wrap64 ((i : Int) + 1) = ((i + 1 : Nat) : Int) := wnat (by omega)
    have b1 : -9223372036854775808 ≤ a + 1 := by omega
    have d1 : a + 1 ≤ 9223372036854775807 := by omega
    have b2 : -9223372036854775808 ≤ a + 1 + 1 := by omega
    have d2 : a + 1 + 1 ≤ 9223372036854775807 := by omega
    have b3 : -9223372036854775808 ≤ a + 1 + 1 + 1 := by omega
    have d3 : a + 1 + 1 + 1 ≤ 9223372036854775807 := by omega
    have e1 : wrap64 (a + 1) = a + 1 := w64 b1 d1
    have e2 : wrap64 (a + 1 + 1) = a + 1 + 1 := w64 b2 d2
    have e3 : wrap64 (a + 1 + 1 + 1) = a + 1 + 1 + 1 := w64 b3 d3
    simp only [laws_markZoneS.l0, Option.bind_some, e1, e2, e3, Int.toNat_natCast, List.set_set, hr, if_pos h0, if_pos h1, hw, t0]
    rw [← es]
    rfl
theorem markZoneS_ev (l : List S83) (m : Int) (hm : 0 ≤ m) (hm2 : m ≤ 1099511627776) (hn : l.length ≤ 1099511627776) :
    Ev (fun k => laws_markZoneS.f k l m) (m + 3 * (l.length : Int), mksZone m l.length) := by
  have h := markZoneS_l0 m l.length hm hm2 hn l 0 m (by omega) (by omega)
  simpa [laws_markZoneS.f, mksZone] using h
theorem heldZoneS_l0 (m : Int) (n : Nat) (hm : 0 ≤ m) (hm2 : m ≤ 1099511627776) (hn : n ≤ 1099511627776) : ∀ (d i : Nat) (a : Int), a = m + 3 * (i : Int) → i + d = n →
    Ev (fun k => laws_heldZoneS.l0 k (mksZone m n) a (i : Int)) (m + 3 * (n : Int))
  | 0, i, a, ha, h => by
    have hi : i = n := by omega
    subst hi
    subst ha
    refine Ev.stepc (fun k => ?_)
    simp only [laws_heldZoneS.l0]
    rw [if_neg (by simp [mksZone_length])]
  | d + 1, i, a, ha, h => by
    have ih := heldZoneS_l0 m n hm hm2 hn d (i + 1) (a + 1 + 1 + 1) (by omega) (by omega)
    refine Ev.stepE (K := 70) (fun k hk => ?_) ih
    have t0 := mt_eq (a) (by omega) k hk
    have hr := mksZone_rd i n m (by omega)
    rw [← ha] at hr
    have h0 : (0 : Int) ≤ (i : Int) := by omega
    have h1 : (i : Int) < ((mksZone m n).length : Int) := by rw [mksZone_length]; omega
    have hw : wrap64 ((i : Int) + 1) = ((i + 1 : Nat) : Int) := wnat (by omega)
    have b1 : -9223372036854775808 ≤ a + 1 := by omega
    have d1 : a + 1 ≤ 9223372036854775807 := by omega
    have b2 : -9223372036854775808 ≤ a + 1 + 1 := by omega
    have d2 : a + 1 + 1 ≤ 9223372036854775807 := by omega
    have b3 : -9223372036854775808 ≤ a + 1 + 1 + 1 := by omega
    have d3 : a + 1 + 1 + 1 ≤ 9223372036854775807 := by omega
    have e1 : wrap64 (a + 1) = a + 1 := w64 b1 d1
    have e2 : wrap64 (a + 1 + 1) = a + 1 + 1 := w64 b2 d2
    have e3 : wrap64 (a + 1 + 1 + 1) = a + 1 + 1 + 1 := w64 b3 d3
    simp only [laws_heldZoneS.l0, Option.bind_some, e1, e2, e3, hr, mkZone, if_pos h0, if_pos h1, hw, t0, if_true, bne_self_eq_false, Bool.false_eq_true, if_false]
theorem heldZoneS_ev (n : Nat) (m : Int) (hm : 0 ≤ m) (hm2 : m ≤ 1099511627776) (hn : n ≤ 1099511627776) :
    Ev (fun k => laws_heldZoneS.f k (mksZone m n) m) (m + 3 * (n : Int)) := by
  have h := heldZoneS_l0 m n hm hm2 hn n 0 m (by omega) (by omega)
  simpa [laws_heldZoneS.f] using h

end Go.Proofs.Ytncckighbgbboaa.Pure
