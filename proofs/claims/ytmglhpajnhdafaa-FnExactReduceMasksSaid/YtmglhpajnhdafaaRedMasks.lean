/- Plain lemmas on what the printed functions answer: numbers and lists alone. -/
import Derived.Test.YtmglhpajnhdafaaPQx0
import Derived.Test.YtmglhpajnhdafaaPQx1
import Derived.Test.YtmglhpajnhdafaaPQx2
import Derived.Test.YtmglhpajnhdafaaPQx3
import Derived.Test.YtmglhpajnhdafaaPQx4
import Derived.Test.YtmglhpajnhdafaaRedSim
namespace Go.Proofs.Ytmglhpajnhdafaa.Pure
open Go.RowKit Go.Proofs.Ytmglhpajnhdafaa.PQ Go.Proofs.YtmglhpajnhdafaaW.PrintWords Go.Proofs.YtmglhpajnhdafaaW.PrintLast
set_option linter.unusedVariables false
set_option linter.unusedSimpArgs false

theorem within_r (a b c : Int) : impl_within.f a b c = some (decide (b ≤ a) && decide (a ≤ c)) := by
  unfold impl_within.f
  by_cases h : b ≤ a
  · rw [if_pos h, decide_eq_true h, Bool.true_and]
  · rw [if_neg h, decide_eq_false h, Bool.false_and]
theorem in_r (a b c : Int) : spec_l1In.f a b c = some (decide (b ≤ a) && decide (a ≤ c)) := by
  unfold spec_l1In.f
  by_cases h : a ≥ b
  · rw [if_pos h, decide_eq_true h, Bool.true_and]
  · rw [if_neg h, decide_eq_false h, Bool.false_and]
def topV (a : Int) : Int := wrap64 ((shl .i64 1 a) - 1)
def maskB (a m : Int) : Bool := decide (0 ≤ m) && decide (m ≤ topV a)
theorem top_small (a : Int) (h1 : 1 ≤ a) (h2 : a ≤ 10) : topV a < 1024 := by
  rcases (show a = 1 ∨ a = 2 ∨ a = 3 ∨ a = 4 ∨ a = 5 ∨ a = 6 ∨ a = 7 ∨ a = 8 ∨ a = 9 ∨ a = 10 by omega) with h | h | h | h | h | h | h | h | h | h <;> subst h <;> first | (decide +kernel) | (unfold topV; decide +kernel) | (unfold topV shl; simp [wrap64, IntKind.wrap, IntKind.bits, IntKind.signed])
theorem all_masks (a : Int) (h : 0 ≤ a) : ∀ l : List Int, allO (fun x => impl_isMask.f a x) l = some (l.all (maskB a))
  | [] => rfl
  | m :: l => by
    have e : impl_isMask.f a m = some (maskB a m) := by
      unfold impl_isMask.f
      rw [if_pos h, within_r, Option.bind_some]
      rfl
    rw [allO, e, Option.bind_some, List.all_cons]
    cases maskB a m with
    | true => rw [if_pos rfl, Bool.true_and]; exact all_masks a h l
    | false => rfl
def goodM (a : Int) (l : List Int) : Bool := (decide (1 ≤ a) && decide (a ≤ 10)) && (decide ((l.length : Int) ≤ 20) && l.all (maskB a))
theorem impl_masks (a : Int) (l : List Int) : impl_areMasks.f a l = some (goodM a l) := by
  unfold impl_areMasks.f impl_isMany.f goodM
  rw [within_r, Option.bind_some, Option.bind_some]
  cases h : (decide (1 ≤ a) && decide (a ≤ 10)) with
  | false => rfl
  | true =>
    simp only [Bool.and_eq_true, decide_eq_true_eq] at h
    rw [if_pos rfl, Bool.true_and]
    by_cases c : (l.length : Int) ≤ 20
    · rw [if_pos c, decide_eq_true c, Bool.true_and, all_masks a (by omega)]
    · rw [if_neg c, decide_eq_false c, Bool.false_and]
theorem spec_all_l0 (b : Int) (l : List Int) (hb : l.length ≤ 1048576) : ∀ (d i : Nat), i + d = l.length → Ev (fun k => spec_l1All.l0 k 0 b l (l.length : Int) (i : Int)) ((l.drop i).all fun m => decide (0 ≤ m) && decide (m ≤ b))
  | 0, i, h => Ev.stepc (fun k => by
      rw [spec_l1All.l0, if_neg (by omega), List.drop_eq_nil_of_le (by omega)]
      rfl)
  | d + 1, i, h => by
    have er : rd l (i : Int) = l[i]'(by omega) := by
      rw [rd_nat, List.getD_eq_getElem?_getD, List.getElem?_eq_getElem (by omega)]
      rfl
    rw [List.drop_eq_getElem_cons (by omega), List.all_cons, ← er]
    cases hb2 : (decide (0 ≤ rd l (i : Int)) && decide (rd l (i : Int) ≤ b)) with
    | true =>
      rw [Bool.true_and]
      exact Ev.step (fun k => by rw [spec_l1All.l0, if_pos (by omega), if_pos (by omega), if_pos (by omega), in_r, Option.bind_some, hb2, if_pos rfl, wnat (by omega)]) (spec_all_l0 b l hb d (i + 1) (by omega))
    | false =>
      rw [Bool.false_and]
      exact Ev.stepc (fun k => by rw [spec_l1All.l0, if_pos (by omega), if_pos (by omega), if_pos (by omega), in_r, Option.bind_some, hb2, if_neg (by decide)])
theorem u64s (a : Int) (h1 : 0 ≤ a) (h2 : a ≤ 1000) : IntKind.u64.wrap a = a := by
  simp only [IntKind.wrap, IntKind.bits, IntKind.signed]
  simp
  omega
theorem spec_masks (a : Int) (l : List Int) (hb : l.length ≤ 1048576) : Ev (fun k => spec_l10Masks.f k a l) (goodM a l) := by
  unfold spec_l10Masks.f goodM
  simp only [in_r, Option.bind_some]
  cases h : (decide (1 ≤ a) && decide (a ≤ 10)) with
  | false =>
    simp only [Bool.false_eq_true, if_false, Bool.false_and]
    exact Ev.now _
  | true =>
    simp only [Bool.and_eq_true, decide_eq_true_eq] at h
    rw [Bool.true_and]
    by_cases c : (l.length : Int) ≤ 20
    · have h0 : 0 ≤ a := by omega
      rw [decide_eq_true c, Bool.true_and]
      simp only [if_true, if_pos c, u64s a h0 (by omega), if_pos h0]
      have h3 := spec_all_l0 (topV a) l hb l.length 0 (by omega)
      rw [List.drop_zero] at h3
      exact Ev.bind (g := fun k => spec_l1All.f k l 0 (wrap64 ((shl .i64 1 a) - 1))) h3 (Ev.now _)
    · rw [decide_eq_false c, Bool.false_and]
      simp only [if_true, if_neg c]
      exact Ev.now _
def packsV (l : List Int) : List PK := l.map fun m => ⟨m, ⟨#[]⟩⟩
theorem packs_l0 (l : List Int) (hb : l.length ≤ 1000) : ∀ (d i : Nat) (acc : List PK), i + d = l.length → acc.length = i → Ev (fun k => impl_packetsOf.l0 k acc l (l.length : Int) (i : Int)) (acc ++ packsV (l.drop i)) ∧ Ev (fun k => spec_l10Of.l0 k acc l (l.length : Int) (i : Int)) (acc ++ packsV (l.drop i))
  | 0, i, acc, h, ha => by
    rw [List.drop_eq_nil_of_le (by omega), packsV, List.map_nil, List.append_nil]
    exact ⟨Ev.stepc (fun k => by rw [impl_packetsOf.l0, if_neg (by omega)]), Ev.stepc (fun k => by rw [spec_l10Of.l0, if_neg (by omega)])⟩
  | d + 1, i, acc, h, ha => by
    have er : rd l (i : Int) = l[i]'(by omega) := by
      rw [rd_nat, List.getD_eq_getElem?_getD, List.getElem?_eq_getElem (by omega)]
      rfl
    obtain ⟨h1, h2⟩ := packs_l0 l hb d (i + 1) (acc ++ [(⟨rd l (i : Int), ⟨#[]⟩⟩ : PK)]) (by omega) (by rw [List.length_append, ha]; rfl)
    have e : acc ++ packsV (l.drop i) = (acc ++ [(⟨rd l (i : Int), ⟨#[]⟩⟩ : PK)]) ++ packsV (l.drop (i + 1)) := by
      rw [List.drop_eq_getElem_cons (by omega), packsV, List.map_cons, ← er, List.append_assoc]
      rfl
    rw [e]
    exact ⟨Ev.step (fun k => by rw [impl_packetsOf.l0, if_pos (by omega), if_pos (by omega), if_pos (by omega), if_pos (by omega), wnat (by omega)]) h1, Ev.step (fun k => by rw [spec_l10Of.l0, if_pos (by omega), if_pos (by omega), if_pos (by omega), if_pos (by omega), wnat (by omega)]) h2⟩
theorem rd32 (l : List PK) (i : Nat) (h : i < l.length) : rd_T32 l (i : Int) = l[i] := by simp [rd_T32, List.getD_eq_getElem?_getD, h]
theorem parted_l0 (l : List PK) (hb : l.length ≤ 1000) : ∀ (d i : Nat) (a : List Int) (b : List ByteArray), i + d = l.length → a.length = i → b.length = i → Ev (fun k => impl_partedPackets.l0 k a b l (l.length : Int) (i : Int)) (a ++ (l.drop i).map (·.f0), b ++ (l.drop i).map (·.f1))
  | 0, i, a, b, h, ha, hb2 => by
    rw [List.drop_eq_nil_of_le (by omega), List.map_nil, List.map_nil, List.append_nil, List.append_nil]
    exact Ev.stepc (fun k => by rw [impl_partedPackets.l0, if_neg (by omega)])
  | d + 1, i, a, b, h, ha, hb2 => by
    have er := rd32 l i (by omega)
    have ih := parted_l0 l hb d (i + 1) (a ++ [l[i].f0]) (b ++ [l[i].f1]) (by omega) (by rw [List.length_append, ha]; rfl) (by rw [List.length_append, hb2]; rfl)
    have s1 : a.length + [l[i].f0].length < 17592186044416 := by rw [ha]; show i + 1 < _; omega
    have s2 : b.length + [l[i].f1].length < 8796093022208 := by rw [hb2]; show i + 1 < _; omega
    rw [List.drop_eq_getElem_cons (by omega), List.map_cons, List.map_cons]
    have e1 : a ++ l[i].f0 :: (l.drop (i + 1)).map (·.f0) = (a ++ [l[i].f0]) ++ (l.drop (i + 1)).map (·.f0) := by simp
    have e2 : b ++ l[i].f1 :: (l.drop (i + 1)).map (·.f1) = (b ++ [l[i].f1]) ++ (l.drop (i + 1)).map (·.f1) := by simp
    rw [e1, e2]
    exact Ev.step (fun k => by rw [impl_partedPackets.l0, if_pos (by omega), if_pos (by omega), if_pos (by omega), er, Option.bind_some, if_pos s1, Option.bind_some, if_pos s2, wnat (by omega)]) ih
theorem out_l0 (l : List PK) (hb : l.length ≤ 1000) : ∀ (d i : Nat) (a : List Int), i + d = l.length → a.length = i → Ev (fun k => spec_ReduceMasks.l0 k a l (l.length : Int) (i : Int)) (a ++ (l.drop i).map (·.f0), true)
  | 0, i, a, h, ha => by
    rw [List.drop_eq_nil_of_le (by omega), List.map_nil, List.append_nil]
    exact Ev.stepc (fun k => by rw [spec_ReduceMasks.l0, if_neg (by omega)])
  | d + 1, i, a, h, ha => by
    have er := rd32 l i (by omega)
    have ih := out_l0 l hb d (i + 1) (a ++ [l[i].f0]) (by omega) (by rw [List.length_append, ha]; rfl)
    rw [List.drop_eq_getElem_cons (by omega), List.map_cons]
    have e1 : a ++ l[i].f0 :: (l.drop (i + 1)).map (·.f0) = (a ++ [l[i].f0]) ++ (l.drop (i + 1)).map (·.f0) := by simp
    rw [e1]
    exact Ev.step (fun k => by rw [spec_ReduceMasks.l0, if_pos (by omega), if_pos (by omega), if_pos (by omega), if_pos (by omega), er, wnat (by omega)]) ih
theorem reduce_both (a : Int) (l : List Int) (hb : l.length ≤ 1048576) : ∃ (L : List Int) (b : Bool), L.length ≤ 1099511627776 ∧ Ev (fun k => spec_ReduceMasks.f k a l) (L, b) ∧ Ev (fun k => impl_ReduceMasks.f k a l) (L, b) := by
  have hs := spec_masks a l hb
  unfold spec_ReduceMasks.f impl_ReduceMasks.f
  simp only [impl_masks, Option.bind_some]
  cases hg : goodM a l with
  | false =>
    rw [hg] at hs
    refine ⟨[], false, by decide, Ev.bind hs ?_, ?_⟩
    · simp only [Bool.false_eq_true, if_false]
      exact Ev.now _
    · simp only [Bool.false_eq_true, if_false]
      exact Ev.now _
  | true =>
    rw [hg] at hs
    unfold goodM at hg
    simp only [Bool.and_eq_true, decide_eq_true_eq] at hg
    obtain ⟨⟨h1, h2⟩, h3, h4⟩ := hg
    have ht := top_small a h1 h2
    obtain ⟨n, rfl⟩ := Int.eq_ofNat_of_zero_le (show 0 ≤ a by omega)
    have hok : Okp (packsV l) := by
      intro z hz
      obtain ⟨m, hm, rfl⟩ := List.mem_map.1 hz
      have h5 := List.all_eq_true.1 h4 m hm
      unfold maskB at h5
      simp only [Bool.and_eq_true, decide_eq_true_eq] at h5
      exact ⟨rfl, h5.1, by show m < 1024; omega⟩
    obtain ⟨T, L, r1, r2, r3⟩ := red_eq n [] (packsV l) (by omega) (fun z hz => by cases hz) hok
    rw [List.length_nil] at r3
    have hpl : (packsV l).length ≤ 1000 := by unfold packsV; rw [List.length_map]; omega
    have c1 : (0 : Int) ≤ (n : Int) := by omega
    have c2 : (n : Int) ≤ 1000 := by omega
    have i1 : impl_reduce.f (n : Int) (packsV l) = some (T, L) := by
      unfold impl_reduce.f
      rw [if_pos c1, if_pos c2, if_pos hpl, Int.toNat_natCast]
      exact r1
    have i2 : spec_l10Reduce.f (n : Int) (packsV l) = some (T, L) := by
      unfold spec_l10Reduce.f
      rw [if_pos c1, if_pos c2, if_pos hpl, Int.toNat_natCast]
      exact r2
    obtain ⟨p1, p2⟩ := packs_l0 l (by omega) l.length 0 [] (by omega) rfl
    rw [List.drop_zero, List.nil_append] at p1 p2
    have o1 := parted_l0 T (by omega) T.length 0 [] [] (by omega) rfl rfl
    have o2 := out_l0 T (by omega) T.length 0 [] (by omega) rfl
    rw [List.drop_zero, List.nil_append] at o2
    rw [List.drop_zero, List.nil_append, List.nil_append] at o1
    refine ⟨T.map (·.f0), true, by rw [List.length_map]; omega, Ev.bind hs ?_, ?_⟩
    · simp only [if_true]
      refine Ev.bind (g := fun k => spec_l10Of.f k l) p2 ?_
      simp only [i2, Option.bind_some]
      exact o2
    · simp only [if_true]
      refine Ev.bind (g := fun k => impl_reduced.f k (n : Int) l) ?_ (Ev.now _)
      unfold impl_reduced.f
      refine Ev.bind (g := fun k => impl_packetsOf.f k l) p1 ?_
      simp only [i1, Option.bind_some]
      exact Ev.bind (g := fun k => impl_partedPackets.f k T) o1 (Ev.now _)

end Go.Proofs.Ytmglhpajnhdafaa.Pure
