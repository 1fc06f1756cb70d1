/- Plain lemmas on what the printed functions answer: numbers and lists alone. -/
import Derived.Test.YtjpeedbabjaidaaPRx2
import Derived.Test.YtjpeedbabjaidaaPRx3
import Derived.Test.YtjpeedbabjaidaaPRx4
import Derived.Test.YtjpeedbabjaidaaPRx5
import Derived.Test.YtjpeedbabjaidaaPRx6
import Derived.Test.YtjpeedbabjaidaaCrc
namespace Go.Proofs.Ytjpeedbabjaidaa.Pure
open Go.RowKit Go.Proofs.Ytjpeedbabjaidaa.PR Go.Proofs.YtjpeedbabjaidaaW.PrintWords Go.Proofs.YtjpeedbabjaidaaW.PrintLast
set_option linter.unusedVariables false
set_option linter.unusedSimpArgs false

/-- the record at the beginning of a text, and how long it is (0: there is none) -/
def nOf (s : ByteArray) : Nat := (bt s 0).toNat
def partOf (s : ByteArray) : ByteArray := s.extract 1 (1 + nOf s)
def dataOf (s : ByteArray) : ByteArray := (partOf s).extract 3 (nOf s - 2)
def goodAt (s : ByteArray) : Bool := goodB (bt (partOf s) 0) (bt (partOf s) 1) (bt (partOf s) 2) (dataOf s)
def hasRec (s : ByteArray) : Prop := 5 ≤ nOf s ∧ 1 + nOf s ≤ s.size ∧ goodAt s = true ∧ (textV (bt (partOf s) 0) (bt (partOf s) 1) (bt (partOf s) 2) (dataOf s)).toList = (s.extract 0 (1 + nOf s)).toList
theorem nOf_le (s : ByteArray) : nOf s ≤ 255 := by have := bt_bd0 s 0; unfold nOf; omega
theorem nOf_int (s : ByteArray) : bt s 0 = (nOf s : Int) := by have := bt_bd0 s 0; unfold nOf; omega
theorem part_size (s : ByteArray) (h : 1 + nOf s ≤ s.size) : (partOf s).size = nOf s := by unfold partOf; rw [ByteArray.size_extract]; omega
theorem toList_inj {a b : ByteArray} (h : a.toList = b.toList) : a = b := by
  rw [Lib.toList_data, Lib.toList_data] at h
  exact ByteArray.ext (Array.ext' h)
/-- where the text of a good record stands at the beginning, its sum is right -/
theorem part_sum (s : ByteArray) (h : hasRec s) : sumN (partOf s) = 0 := by
  obtain ⟨h1, h2, h3, h4⟩ := h
  have h5 := toList_inj h4
  have e : partOf s = (s.extract 0 (1 + nOf s)).extract 1 (1 + nOf s) := by
    unfold partOf
    rw [ByteArray.extract_extract]
    congr 1 <;> omega
  rw [e, ← h5]
  have hsz : (textV (bt (partOf s) 0) (bt (partOf s) 1) (bt (partOf s) 2) (dataOf s)).size = 1 + nOf s := by rw [h5, ByteArray.size_extract]; omega
  rw [← hsz]
  unfold textV
  rw [ByteArray.extract_append_eq_right (by rw [str1]) (by rw [ByteArray.size_append])]
  exact sum_with _
theorem bt_extract0 (s : ByteArray) (n i : Nat) (h : i < n) (hn : n ≤ s.size) : bt (s.extract 0 n) (i : Int) = bt s (i : Int) := by
  have h1 : i < (s.extract 0 n).size := by rw [ByteArray.size_extract]; omega
  rw [← bt_at _ _ (show ((i : Int)).toNat < (s.extract 0 n).size from h1), ← bt_at s i (show ((i : Int)).toNat < s.size by rw [Int.toNat_natCast]; omega)]
  have := ByteArray.getElem_extract (b := s) (start := 0) (stop := n) (i := i) h1
  simp only [Nat.zero_add] at this
  exact congrArg (fun x : UInt8 => (x.toNat : Int)) this
abbrev Got := Int × Int × Int × ByteArray × Int × Bool
noncomputable def readV (s : ByteArray) : Got := by
  classical
  exact if hasRec s then (bt (partOf s) 0, bt (partOf s) 1, bt (partOf s) 2, dataOf s, ((1 + nOf s : Nat) : Int), true) else (0, 0, 0, ⟨#[]⟩, 0, false)
theorem readV_yes {s : ByteArray} (h : hasRec s) : readV s = (bt (partOf s) 0, bt (partOf s) 1, bt (partOf s) 2, dataOf s, ((1 + nOf s : Nat) : Int), true) := by unfold readV; exact if_pos h
theorem readV_no {s : ByteArray} (h : ¬ hasRec s) : readV s = (0, 0, 0, ⟨#[]⟩, 0, false) := by unfold readV; exact if_neg h
theorem wbt (s : ByteArray) (i : Int) : wrap64 (bt s i) = bt s i := by have := bt_bd0 s i; exact w64 (by omega) (by omega)
theorem w1n (n : Nat) (h : n ≤ 255) : wrap64 (1 + (n : Int)) = ((1 + n : Nat) : Int) := by rw [w64 (by omega) (by omega)]; omega
theorem wm2 (n : Nat) (h2 : 2 ≤ n) (h : n ≤ 255) : wrap64 ((n : Int) - 2) = ((n - 2 : Nat) : Int) := by rw [w64 (by omega) (by omega)]; omega
theorem impl_j1 (s b : ByteArray) (h2 : 1 + nOf s ≤ s.size) (hb : b = (partOf s).extract 0 (nOf s - 2)) (h5 : 5 ≤ nOf s) : Ev (fun k => impl_readRecord.j1 k s ((1 + nOf s : Nat) : Int) b false) (readV s) := by
  have hp := part_size s h2
  have hn := nOf_le s
  have hbs : b.size = nOf s - 2 := by rw [hb, ByteArray.size_extract]; omega
  have hbe : b.extract 3 b.size = dataOf s := by
    rw [hbs, hb, ByteArray.extract_extract]
    unfold dataOf
    congr 1 <;> omega
  have g0 : bt b 0 = bt (partOf s) 0 := by rw [hb]; exact bt_extract0 _ _ 0 (by omega) (by omega)
  have g1 : bt b 1 = bt (partOf s) 1 := by rw [hb]; exact bt_extract0 _ _ 1 (by omega) (by omega)
  have g2 : bt b 2 = bt (partOf s) 2 := by rw [hb]; exact bt_extract0 _ _ 2 (by omega) (by omega)
  have c0 : 0 < (b.size : Int) := by omega
  have c1 : 1 < (b.size : Int) := by omega
  have c2 : 2 < (b.size : Int) := by omega
  have c3 : 3 ≤ (b.size : Int) := by omega
  have c4 : (0 : Int) ≤ ((1 + nOf s : Nat) : Int) := by omega
  have c5 : ((1 + nOf s : Nat) : Int) ≤ (s.size : Int) := by omega
  refine Ev.stepc (fun k => ?_)
  rw [impl_readRecord.j1, if_neg (by decide), if_pos c0, if_pos c1, if_pos c2, if_pos c3, wbt, wbt, wbt, hbe, g0, g1, g2, impl_good, Option.bind_some]
  cases hg : goodAt s with
  | false =>
    rw [show goodB _ _ _ _ = false from hg, if_neg (by decide), readV_no (fun h => by have := h.2.2.1; rw [hg] at this; cases this)]
  | true =>
    have hd := good_size hg
    rw [show goodB _ _ _ _ = true from hg, if_pos rfl, impl_text _ _ _ _ (by omega), Option.bind_some, if_pos c4, if_pos c5, Int.toNat_natCast]
    by_cases ht : (textV (bt (partOf s) 0) (bt (partOf s) 1) (bt (partOf s) 2) (dataOf s)).toList = (s.extract 0 (1 + nOf s)).toList
    · rw [if_pos ht, readV_yes ⟨h5, h2, hg, ht⟩]
    · rw [if_neg ht, readV_no (fun h => ht h.2.2.2)]
theorem impl_read_ev (s : ByteArray) (hs : s.size ≤ 1048576) : Ev (fun k => impl_readRecord.f k s) (readV s) := by
  have hn := nOf_le s
  have j0t : ∀ (h : ¬ hasRec s), Ev (fun k => impl_readRecord.j0 k s true) (readV s) := fun h => by
    rw [readV_no h]
    exact Ev.stepc (fun k => by rw [impl_readRecord.j0, if_pos rfl])
  have j1t : ∀ (x : Int) (b : ByteArray) (h : ¬ hasRec s), Ev (fun k => impl_readRecord.j1 k s x b true) (readV s) := fun x b h => by
    rw [readV_no h]
    exact Ev.stepc (fun k => by rw [impl_readRecord.j1, if_pos rfl])
  unfold impl_readRecord.f
  by_cases c0 : s.size = 0
  · have e : s.toList = ([] : List UInt8) := by
      rw [Lib.toList_data]
      exact List.eq_nil_of_length_eq_zero (by rw [Array.length_toList]; exact c0)
    simp only [if_pos e]
    exact j0t (fun h => by have := h.2.1; omega)
  · have e : ¬ s.toList = ([] : List UInt8) := fun e => by
      rw [Lib.toList_data] at e
      have : s.data.toList.length = 0 := by rw [e]; rfl
      rw [Array.length_toList] at this
      exact c0 this
    have c1 : 0 < (s.size : Int) := by omega
    simp only [if_neg e, if_pos c1, show wrap64 (bt s 0) = (nOf s : Int) from by rw [wbt, nOf_int], w1n (nOf s) hn]
    by_cases c2 : 1 + nOf s ≤ s.size
    · rw [decide_eq_false (show ¬ (s.size : Int) < ((1 + nOf s : Nat) : Int) by omega)]
      have c3 : (1 : Int) ≤ ((1 + nOf s : Nat) : Int) := by omega
      have c4 : ((1 + nOf s : Nat) : Int) ≤ (s.size : Int) := by omega
      have hp := part_size s c2
      refine Ev.step (f := fun k => (impl_checkSum.f (partOf s)).bind fun bt153 => (if bt153.2 = true then (impl_readRecord.j1 k s ((1 + nOf s : Nat) : Int) bt153.1 (decide ((bt153.1.size : Int) < 3))) else (impl_readRecord.j1 k s ((1 + nOf s : Nat) : Int) bt153.1 true))) (fun k => ?_) ?_
      · rw [impl_readRecord.j0, if_neg (by decide), if_pos c1, wbt, nOf_int, w1n (nOf s) hn, if_pos c3, if_pos c4]
        rfl
      · unfold impl_checkSum.f
        by_cases c5 : ((partOf s).size : Int) < 2
        · simp only [if_pos c5, Option.bind_some, Bool.false_eq_true, if_false]
          exact j1t _ _ (fun h => by have := h.1; omega)
        · have hsum := sumOn_eq 0 (partOf s) (by omega) (by omega)
          rw [show impl_sumOn.f 0 (partOf s) = _ from hsum]
          simp only [if_neg c5, Option.bind_some]
          by_cases c6 : ((toN 0 (partOf s) (nOf s) : Nat) : Int) = 0
          · have c7 : (0 : Int) ≤ ((nOf s - 2 : Nat) : Int) := by omega
            have c8 : ((nOf s - 2 : Nat) : Int) ≤ (nOf s : Int) := by omega
            have hw := wm2 (nOf s) (by omega) hn
            simp only [if_pos c6, hp, hw, if_pos c7, if_pos c8, Option.bind_some, if_true, Int.toNat_natCast]
            by_cases c9 : 5 ≤ nOf s
            · rw [decide_eq_false (by rw [ByteArray.size_extract, hp]; clear hw; omega)]
              exact impl_j1 s _ c2 rfl c9
            · rw [decide_eq_true (by rw [ByteArray.size_extract, hp]; clear hw; omega)]
              exact j1t _ _ (fun h => c9 h.1)
          · simp only [hp, if_neg c6, Option.bind_some, Bool.false_eq_true, if_false]
            exact j1t _ _ (fun h => c6 (by have := part_sum s h; unfold sumN at this; rw [hp] at this; omega))
    · rw [decide_eq_true (show (s.size : Int) < ((1 + nOf s : Nat) : Int) by omega)]
      exact j0t (fun h => c2 h.2.1)
theorem wadd (a n : Nat) (h : a + n ≤ 4611686018427387904) : wrap64 ((a : Int) + (n : Int)) = ((a + n : Nat) : Int) := by rw [w64 (by omega) (by omega)]; omega
abbrev Got5 := Int × Int × Int × ByteArray × Int
noncomputable def specV (s : ByteArray) (at_ : Nat) : Got5 := by
  classical
  exact if hasRec s then (bt (partOf s) 0, bt (partOf s) 1, bt (partOf s) 2, dataOf s, ((at_ + 1 + nOf s : Nat) : Int)) else (0, 0, 0, ⟨#[]⟩, -1)
theorem specV_yes {s : ByteArray} {at_ : Nat} (h : hasRec s) : specV s at_ = (bt (partOf s) 0, bt (partOf s) 1, bt (partOf s) 2, dataOf s, ((at_ + 1 + nOf s : Nat) : Int)) := by unfold specV; exact if_pos h
theorem specV_no {s : ByteArray} {at_ : Nat} (h : ¬ hasRec s) : specV s at_ = (0, 0, 0, ⟨#[]⟩, -1) := by unfold specV; exact if_neg h
def tailOf (x : ByteArray) (at_ : Nat) : ByteArray := x.extract at_ x.size
theorem tail_size (x : ByteArray) (at_ : Nat) : (tailOf x at_).size = x.size - at_ := by unfold tailOf; rw [ByteArray.size_extract]; omega
theorem tail_bt (x : ByteArray) (at_ : Nat) (h : at_ < x.size) : bt x (at_ : Int) = (nOf (tailOf x at_) : Int) := by
  rw [← nOf_int]
  have h1 : 0 < (x.extract at_ x.size).size := by rw [ByteArray.size_extract]; omega
  unfold tailOf
  rw [← bt_at _ 0 (show ((0 : Int)).toNat < (x.extract at_ x.size).size from h1), ← bt_at x at_ (show ((at_ : Int)).toNat < x.size from h)]
  have := ByteArray.getElem_extract (b := x) (start := at_) (stop := x.size) (i := 0) h1
  simp only [Nat.add_zero] at this
  exact (congrArg (fun y : UInt8 => (y.toNat : Int)) this).symm
theorem tail_part (x : ByteArray) (at_ n : Nat) (hn : n = nOf (tailOf x at_)) (h : at_ + 1 + n ≤ x.size) : x.extract (at_ + 1) (at_ + 1 + n) = partOf (tailOf x at_) := by
  unfold partOf
  rw [← hn]
  unfold tailOf
  rw [ByteArray.extract_extract]
  congr 1
  omega
theorem tail_front (x : ByteArray) (at_ n : Nat) (h : at_ + 1 + n ≤ x.size) : x.extract at_ (at_ + 1 + n) = (tailOf x at_).extract 0 (1 + n) := by
  unfold tailOf
  rw [ByteArray.extract_extract]
  congr 1
  omega
set_option maxHeartbeats 400000 in
theorem spec_j0 (x : ByteArray) (hx : x.size ≤ 1048576) (at_ : Nat) (h5 : 5 ≤ nOf (tailOf x at_)) (h : at_ + 1 + nOf (tailOf x at_) ≤ x.size) :
    Ev (fun k => spec_l3Read.j0 k x (at_ : Int) (nOf (tailOf x at_) : Int) false) (specV (tailOf x at_) at_) := by
  have hn := nOf_le (tailOf x at_)
  have hts := tail_size x at_
  have hp := part_size (tailOf x at_) (by omega)
  have e1 := tail_part x at_ _ rfl h
  have e2 := tail_front x at_ (nOf (tailOf x at_)) h
  generalize hN : nOf (tailOf x at_) = n at h5 h hn hp e1 e2 ⊢
  have hd : dataOf (tailOf x at_) = (partOf (tailOf x at_)).extract 3 (n - 2) := by unfold dataOf; rw [hN]
  have d0 : (0 : Int) ≤ ((at_ + 1 : Nat) : Int) := by omega
  have d1 : ((at_ + 1 : Nat) : Int) ≤ ((at_ + 1 + n : Nat) : Int) := by omega
  have d2 : ((at_ + 1 + n : Nat) : Int) ≤ (x.size : Int) := by omega
  have d3 : (0 : Int) < ((partOf (tailOf x at_)).size : Int) := by omega
  have d4 : (1 : Int) < ((partOf (tailOf x at_)).size : Int) := by omega
  have d5 : (2 : Int) < ((partOf (tailOf x at_)).size : Int) := by omega
  have d6 : (3 : Int) ≤ ((n - 2 : Nat) : Int) := by omega
  have d7 : ((n - 2 : Nat) : Int) ≤ ((partOf (tailOf x at_)).size : Int) := by omega
  have d8 : (0 : Int) ≤ (at_ : Int) := by omega
  have d9 : (at_ : Int) ≤ ((at_ + 1 + n : Nat) : Int) := by omega
  have w1 := wnat (i := at_) (by omega)
  have w2 := wadd (at_ + 1) n (by clear w1; omega)
  have w3 := wm2 n (by clear w1 w2; omega) hn
  have hh : ∀ {q}, hasRec (tailOf x at_) → q = true → True := fun _ _ => trivial
  cases hg : goodAt (tailOf x at_) with
  | false =>
    have hg' := hg
    unfold goodAt at hg'
    rw [hd] at hg'
    rw [specV_no (fun h => by have := h.2.2.1; rw [hg] at this; cases this)]
    refine Ev.stepc (fun k => ?_)
    rw [spec_l3Read.j0, if_neg (by decide), w1, w2, w3]
    simp only [Int.toNat_natCast]
    rw [if_pos d0, if_pos d1, if_pos d2, e1, if_pos d3, if_pos d4, if_pos d5, if_pos d6, if_pos d7, wbt, wbt, wbt, spec_good, Option.bind_some, hg', if_neg (by decide)]
  | true =>
    have hg' := hg
    have hds := good_size hg
    unfold goodAt at hg'
    rw [hd] at hg' hds
    have hte : Ev (fun k => spec_l3Text.f k (bt (partOf (tailOf x at_)) 0) (bt (partOf (tailOf x at_)) 1) (bt (partOf (tailOf x at_)) 2) ((partOf (tailOf x at_)).extract 3 (n - 2))) _ := spec_text _ _ _ _ (Nat.le_trans hds (by decide))
    refine Ev.step (f := fun k => (spec_l3Text.f k (bt (partOf (tailOf x at_)) 0) (bt (partOf (tailOf x at_)) 1) (bt (partOf (tailOf x at_)) 2) ((partOf (tailOf x at_)).extract 3 (n - 2))).bind fun t => (if t.toList = ((tailOf x at_).extract 0 (1 + n)).toList then (some ((bt (partOf (tailOf x at_)) 0, bt (partOf (tailOf x at_)) 1, bt (partOf (tailOf x at_)) 2, (partOf (tailOf x at_)).extract 3 (n - 2), ((at_ + 1 + n : Nat) : Int)) : Got5)) else (some ((0, 0, 0, (⟨#[]⟩ : ByteArray), (-1)) : Got5)))) (fun k => ?_) (Ev.bind hte ?_)
    · rw [spec_l3Read.j0, if_neg (by decide), w1, w2, w3]
      simp only [Int.toNat_natCast]
      rewrite [if_pos d0, if_pos d1, if_pos d2, e1, e2, if_pos d3, if_pos d4, if_pos d5, if_pos d6, if_pos d7, wbt, wbt, wbt, spec_good, Option.bind_some, hg', if_pos (show true = true from rfl)]
      refine congrArg (fun g => (spec_l3Text.f k (bt (partOf (tailOf x at_)) 0) (bt (partOf (tailOf x at_)) 1) (bt (partOf (tailOf x at_)) 2) ((partOf (tailOf x at_)).extract 3 (n - 2))).bind g) (funext fun t => ?_)
      rewrite [if_pos d8, if_pos d9]
      rfl
    · by_cases ht : (textV (bt (partOf (tailOf x at_)) 0) (bt (partOf (tailOf x at_)) 1) (bt (partOf (tailOf x at_)) 2) ((partOf (tailOf x at_)).extract 3 (n - 2))).toList = ((tailOf x at_).extract 0 (1 + n)).toList
      · simp only [if_pos ht]
        rw [specV_yes ⟨by rw [hN]; exact h5, by rw [hN, hts]; clear w1 w2 w3; omega, hg, by rw [hN, hd]; exact ht⟩, hN, hd]
        exact Ev.now _
      · simp only [if_neg ht]
        rw [specV_no (fun h => ht (by have := h.2.2.2; rw [hN, hd] at this; exact this))]
        exact Ev.now _
theorem spec_read_ev (x : ByteArray) (hx : x.size ≤ 1048576) (at_ : Nat) : Ev (fun k => spec_l3Read.f k x (at_ : Int)) (specV (tailOf x at_) at_) := by
  have hts := tail_size x at_
  unfold spec_l3Read.f
  by_cases c0 : (at_ : Int) ≥ (x.size : Int)
  · simp only [if_pos c0]
    rw [specV_no (fun h => by have := h.2.1; omega)]
    exact Ev.now _
  · have c1 : (0 : Int) ≤ (at_ : Int) := by omega
    have c2 : (at_ : Int) < (x.size : Int) := by omega
    have hw0 := tail_bt x at_ (by omega)
    have hn := nOf_le (tailOf x at_)
    have h1 : wrap64 ((x.size : Int) - (at_ : Int)) = ((x.size - at_ : Nat) : Int) := by rw [w64 (by omega) (by omega)]; omega
    have h2 : wrap64 (((x.size - at_ : Nat) : Int) - 1) = ((x.size - at_ - 1 : Nat) : Int) := by clear h1; rw [w64 (by omega) (by omega)]; omega
    simp only [if_neg c0, if_pos c1, if_pos c2, wbt, h1, h2]
    rw [hw0]
    clear h1 h2 hw0
    have j0t : ∀ (h : ¬ hasRec (tailOf x at_)), Ev (fun k => spec_l3Read.j0 k x (at_ : Int) (nOf (tailOf x at_) : Int) true) (specV (tailOf x at_) at_) := fun h => by
      rw [specV_no h]
      exact Ev.stepc (fun k => by rw [spec_l3Read.j0, if_pos rfl])
    by_cases c3 : (nOf (tailOf x at_) : Int) < 5
    · simp only [if_pos c3]
      exact j0t (fun h => by have := h.1; omega)
    · simp only [if_neg c3]
      by_cases c4 : (nOf (tailOf x at_) : Int) > ((x.size - at_ - 1 : Nat) : Int)
      · rw [decide_eq_true c4]
        exact j0t (fun h => by have := h.2.1; omega)
      · rw [decide_eq_false c4]
        exact spec_j0 x hx at_ (by omega) (by omega)

end Go.Proofs.Ytjpeedbabjaidaa.Pure
