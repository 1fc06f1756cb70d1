/- Plain lemmas on what the printed functions answer: numbers and lists alone. -/
import Derived.Test.YtjpeedbabjaidaaPRx6
import Derived.Test.YtjpeedbabjaidaaPRx7
import Derived.Test.YtjpeedbabjaidaaPRx8
import Derived.Test.YtjpeedbabjaidaaAlls
import Derived.Test.YtjpeedbabjaidaaSegLists
namespace Go.Proofs.Ytjpeedbabjaidaa.Pure
open Go.RowKit Go.Proofs.Ytjpeedbabjaidaa.PR Go.Proofs.YtjpeedbabjaidaaW.PrintWords Go.Proofs.YtjpeedbabjaidaaW.PrintLast
set_option linter.unusedVariables false
set_option linter.unusedSimpArgs false

/-- the record at the front of a text, and what stands behind it -/
def recOf (s : ByteArray) : Q := ⟨bt (partOf s) 0, bt (partOf s) 1, bt (partOf s) 2, dataOf s⟩
def restOf (s : ByteArray) : ByteArray := tailOf s (1 + nOf s)
/-- from its front a text reads as these records, so many bytes long, and then as none -/
def Rd : ByteArray → List Q → Nat → Prop
  | s, [], e => e = 0 ∧ ¬ hasRec s
  | s, r :: L, e => hasRec s ∧ r = recOf s ∧ ∃ e', e = 1 + nOf s + e' ∧ Rd (restOf s) L e'
theorem tail_tail (x : ByteArray) (a n : Nat) (h : a ≤ x.size) : tailOf (tailOf x a) n = tailOf x (a + n) := by
  have hs := tail_size x a
  unfold tailOf at *
  rw [hs, ByteArray.extract_extract]
  congr 1
  omega
theorem tail_0 (x : ByteArray) : tailOf x 0 = x := ByteArray.extract_zero_size
theorem impl_rd (x : ByteArray) (hx : x.size ≤ 1048576) : ∀ (L : List Q) (at_ e : Nat) (l : List Q), Rd (tailOf x at_) L e → at_ ≤ x.size → l.length ≤ at_ → at_ + e ≤ x.size ∧ Ev (fun k => impl_readSegment.l0 k x l (at_ : Int)) (l ++ L, ((at_ + e : Nat) : Int))
  | [], at_, e, l, ⟨he, hr⟩, ha, hl => by
    subst he
    have him := impl_read_ev (tailOf x at_) (by rw [tail_size]; omega)
    have d1 : (0 : Int) ≤ (at_ : Int) := by omega
    have d2 : (at_ : Int) ≤ (x.size : Int) := by omega
    have is : ∀ k, impl_readSegment.l0 (k + 1) x l (at_ : Int) = (impl_readRecord.f k (tailOf x at_)).bind fun bt198 => (if bt198.2.2.2.2.2 = true then (if l.length < 3518437208883 then (impl_readSegment.l0 k x (l ++ [(⟨bt198.1, bt198.2.1, bt198.2.2.1, bt198.2.2.2.1⟩ : Q)]) (wrap64 ((at_ : Int) + bt198.2.2.2.2.1))) else (none)) else (some ((l, (at_ : Int)) : List Q × Int))) := fun k => by
      rw [impl_readSegment.l0, if_pos d1, if_pos d2, Int.toNat_natCast]; rfl
    rw [readV_no hr] at him
    rw [List.append_nil]
    refine ⟨by omega, Ev.step is (Ev.bind him ?_)⟩
    simp only [Bool.false_eq_true, if_false]
    exact Ev.now _
  | r :: L, at_, e, l, ⟨hr, hre, e', he, hR⟩, ha, hl => by
    subst he hre
    have him := impl_read_ev (tailOf x at_) (by rw [tail_size]; omega)
    have d1 : (0 : Int) ≤ (at_ : Int) := by omega
    have d2 : (at_ : Int) ≤ (x.size : Int) := by omega
    have is : ∀ k, impl_readSegment.l0 (k + 1) x l (at_ : Int) = (impl_readRecord.f k (tailOf x at_)).bind fun bt198 => (if bt198.2.2.2.2.2 = true then (if l.length < 3518437208883 then (impl_readSegment.l0 k x (l ++ [(⟨bt198.1, bt198.2.1, bt198.2.2.1, bt198.2.2.2.1⟩ : Q)]) (wrap64 ((at_ : Int) + bt198.2.2.2.2.1))) else (none)) else (some ((l, (at_ : Int)) : List Q × Int))) := fun k => by
      rw [impl_readSegment.l0, if_pos d1, if_pos d2, Int.toNat_natCast]; rfl
    have hn := nOf_le (tailOf x at_)
    have h2 := hr.2.1
    rw [tail_size] at h2
    rw [readV_yes hr] at him
    unfold restOf at hR
    rw [tail_tail x at_ _ ha] at hR
    obtain ⟨h5, ih⟩ := impl_rd x hx L (at_ + (1 + nOf (tailOf x at_))) e' (l ++ [recOf (tailOf x at_)]) hR (by omega) (by rw [List.length_append]; show l.length + 1 ≤ _; omega)
    have d4 : l.length < 3518437208883 := by omega
    refine ⟨by omega, Ev.step is (Ev.bind him ?_)⟩
    simp only [if_true, if_pos d4]
    rw [wadd at_ (1 + nOf (tailOf x at_)) (by omega)]
    rw [List.append_assoc] at ih
    rw [← Nat.add_assoc at_ (1 + nOf (tailOf x at_)) e']
    exact ih
theorem readSeg_rd (x : ByteArray) (hx : x.size ≤ 300) (L : List Q) (e : Nat) (h : Rd x L e) : Ev (fun k => impl_ReadSegment.f k x) (L, (e : Int), true) := by
  rw [← tail_0 x] at h
  have h2 := (impl_rd x (by omega) L 0 e [] h (by omega) (by simp)).2
  rw [List.nil_append, Nat.zero_add] at h2
  have c1 : ¬ (x.size : Int) > 300 := by omega
  unfold impl_ReadSegment.f
  simp only [if_neg c1]
  exact Ev.bind (g := fun k => impl_readSegment.f k x) h2 (Ev.now _)
theorem torn_rd (x : ByteArray) (hx : x.size ≤ 300) (a : Int) (h0 : 0 ≤ a) (h1 : a ≤ (x.size : Int)) (L : List Q) (e : Nat) (h : Rd (x.extract 0 a.toNat) L e) : e ≤ x.size ∧ Ev (fun k => impl_TornSegment.f k x a) (x.extract 0 e, true) := by
  have hs : (x.extract 0 a.toNat).size ≤ x.size := by rw [ByteArray.size_extract]; omega
  rw [← tail_0 (x.extract 0 a.toNat)] at h
  obtain ⟨h3, h2⟩ := impl_rd (x.extract 0 a.toNat) (by omega) L 0 e [] h (by omega) (by simp)
  rw [List.nil_append, Nat.zero_add] at h2
  have c1 : ¬ (x.size : Int) > 300 := by omega
  have d1 : (0 : Int) ≤ (e : Int) := by omega
  have d2 : (e : Int) ≤ (x.size : Int) := by omega
  refine ⟨by omega, ?_⟩
  unfold impl_TornSegment.f
  simp only [within_eq, Option.bind_some, if_neg c1, decide_eq_true h0, decide_eq_true h1, Bool.and_self, if_true, if_pos h0, if_pos h1]
  refine Ev.bind (g := fun k => impl_readSegment.f k (x.extract 0 a.toNat)) h2 ?_
  simp only [if_pos d1, if_pos d2, Int.toNat_natCast]
  exact Ev.now _
theorem good_bounds {a b c : Int} {d : ByteArray} (h : goodB a b c d = true) : a % 256 = a ∧ b % 256 = b ∧ c % 256 = c := by
  unfold goodB at h
  by_cases h1 : a = 1
  · rw [if_pos h1] at h
    simp only [whereB, Bool.and_eq_true, decide_eq_true_eq] at h
    obtain ⟨⟨⟨p1, p2⟩, p3, p4⟩, _⟩ := h
    rw [w64 (by omega) (by omega)] at p4
    omega
  · rw [if_neg h1] at h
    by_cases h2 : a = 2
    · rw [if_pos h2] at h
      simp only [whereB, Bool.and_eq_true, decide_eq_true_eq] at h
      obtain ⟨⟨⟨p1, p2⟩, p3, p4⟩, _⟩ := h
      rw [w64 (by omega) (by omega)] at p4
      omega
    · rw [if_neg h2] at h
      by_cases h3 : a = 3
      · rw [if_pos h3] at h
        simp only [Bool.and_eq_true, decide_eq_true_eq] at h
        omega
      · rw [if_neg h3] at h
        cases h
theorem str1_0 (x : Int) (h : 0 ≤ x) (h2 : x < 256) : bt (strOfNums [x]) ((0 : Nat) : Int) = x := by
  have : bt (strOfNums [x]) ((0 : Nat) : Int) = ((UInt8.ofNat x.toNat).toNat : Int) := rfl
  rw [this, UInt8.toNat_ofNat']
  omega
theorem str3_i (x y z : Int) (hx : 0 ≤ x ∧ x < 256) (hy : 0 ≤ y ∧ y < 256) (hz : 0 ≤ z ∧ z < 256) : bt (strOfNums [x, y, z]) ((0 : Nat) : Int) = x ∧ bt (strOfNums [x, y, z]) ((1 : Nat) : Int) = y ∧ bt (strOfNums [x, y, z]) ((2 : Nat) : Int) = z := by
  have h0 : bt (strOfNums [x, y, z]) ((0 : Nat) : Int) = ((UInt8.ofNat x.toNat).toNat : Int) := rfl
  have h1 : bt (strOfNums [x, y, z]) ((1 : Nat) : Int) = ((UInt8.ofNat y.toNat).toNat : Int) := rfl
  have h2 : bt (strOfNums [x, y, z]) ((2 : Nat) : Int) = ((UInt8.ofNat z.toNat).toNat : Int) := rfl
  rw [h0, h1, h2, UInt8.toNat_ofNat', UInt8.toNat_ofNat', UInt8.toNat_ofNat']
  omega
theorem extract_all (a : ByteArray) (k : Nat) (h : a.size ≤ k) : a.extract 0 k = a := by
  have h1 : (a.extract 0 a.size).extract 0 k = a.extract 0 a.size := by
    rw [ByteArray.extract_extract]
    congr 1
    omega
  rwa [ByteArray.extract_zero_size] at h1
/-- a text that begins with the text of a good record reads as that record and the rest -/
theorem front (r : Q) (hg : goodR r = true) (rest : ByteArray) : hasRec (textR r ++ rest) ∧ recOf (textR r ++ rest) = r ∧ 1 + nOf (textR r ++ rest) = (textR r).size ∧ restOf (textR r ++ rest) = rest := by
  obtain ⟨a, b, c, d⟩ := r
  have hg2 : goodB a b c d = true := hg
  obtain ⟨ba, bb, bc⟩ := good_bounds hg2
  have hd := good_size hg2
  have hB := body_size a b c d
  have hW := with_size (bodyV a b c d)
  have hT : (textR ⟨a, b, c, d⟩).size = d.size + 6 := text_size a b c d
  have hTe : textR ⟨a, b, c, d⟩ = strOfNums [((withV (bodyV a b c d)).size : Int) % 256] ++ withV (bodyV a b c d) := rfl
  have h8 : ((withV (bodyV a b c d)).size : Int) % 256 = (d.size : Int) + 5 := by omega
  rw [h8] at hTe
  have hn : nOf (textR ⟨a, b, c, d⟩ ++ rest) = d.size + 5 := by
    unfold nOf
    have e1 := bt_left (textR ⟨a, b, c, d⟩) rest 0 (by omega)
    have e2 := bt_left (strOfNums [(d.size : Int) + 5]) (withV (bodyV a b c d)) 0 (by rw [str1]; omega)
    rw [← hTe] at e2
    have e3 := str1_0 ((d.size : Int) + 5) (by omega) (by omega)
    rw [e2, e3] at e1
    show (bt _ ((0 : Nat) : Int)).toNat = _
    rw [e1]
    omega
  have hp : partOf (textR ⟨a, b, c, d⟩ ++ rest) = withV (bodyV a b c d) := by
    unfold partOf
    rw [hn, show 1 + (d.size + 5) = (textR ⟨a, b, c, d⟩).size by omega, ByteArray.extract_append_size_left, hTe]
    exact ByteArray.extract_append_eq_right (by rw [str1]) (by rw [ByteArray.size_append])
  have hbody : bodyV a b c d = strOfNums [a, b, c] ++ d := by unfold bodyV; rw [ba, bb, bc]
  have hdat : dataOf (textR ⟨a, b, c, d⟩ ++ rest) = d := by
    unfold dataOf
    rw [hp, hn, show d.size + 5 - 2 = (bodyV a b c d).size by omega]
    unfold withV
    rw [ByteArray.extract_append_size_left, hbody]
    exact ByteArray.extract_append_eq_right (by rw [str3]) (by rw [ByteArray.size_append])
  obtain ⟨s0, s1, s2⟩ := str3_i a b c (by omega) (by omega) (by omega)
  have hb : ∀ i : Nat, i < 3 → bt (withV (bodyV a b c d)) (i : Int) = bt (strOfNums [a, b, c]) (i : Int) := by
    intro i hi
    unfold withV
    rw [bt_left _ _ i (by omega), hbody, bt_left _ _ i (by rw [str3]; omega)]
  have g0 : bt (partOf (textR ⟨a, b, c, d⟩ ++ rest)) 0 = a := by rw [hp]; exact (hb 0 (by omega)).trans s0
  have g1 : bt (partOf (textR ⟨a, b, c, d⟩ ++ rest)) 1 = b := by rw [hp]; exact (hb 1 (by omega)).trans s1
  have g2 : bt (partOf (textR ⟨a, b, c, d⟩ ++ rest)) 2 = c := by rw [hp]; exact (hb 2 (by omega)).trans s2
  have hsz : 1 + nOf (textR ⟨a, b, c, d⟩ ++ rest) = (textR ⟨a, b, c, d⟩).size := by rw [hn]; omega
  refine ⟨⟨by omega, by rw [hsz, ByteArray.size_append]; omega, ?_, ?_⟩, ?_, hsz, ?_⟩
  · unfold goodAt
    rw [g0, g1, g2, hdat]
    exact hg2
  · rw [g0, g1, g2, hdat, hsz, ByteArray.extract_append_eq_left rfl]
    rfl
  · unfold recOf
    rw [g0, g1, g2, hdat]
  · unfold restOf tailOf
    rw [hsz]
    exact ByteArray.extract_append_eq_right rfl (by rw [ByteArray.size_append])
/-- the text of records -/
def segF : List Q → ByteArray
  | [] => ⟨#[]⟩
  | r :: l => textR r ++ segF l
theorem segV_eq : ∀ (l : List Q) (acc : ByteArray), segV acc l = acc ++ segF l
  | [], acc => (ByteArray.append_empty (b := acc)).symm
  | r :: l, acc => by rw [segV, segF, segV_eq l, ByteArray.append_assoc]
theorem segV_nil (l : List Q) : segV ⟨#[]⟩ l = segF l := by
  rw [segV_eq]
  exact ByteArray.empty_append
theorem rd_none (s : ByteArray) (h : s.size = 0) : Rd s [] 0 := ⟨rfl, fun hr => by have := hr.2.1; omega⟩
theorem rd_full : ∀ l : List Q, l.all goodR = true → Rd (segF l) l (segF l).size
  | [], _ => rd_none _ rfl
  | r :: l, h => by
    rw [List.all_cons, Bool.and_eq_true] at h
    obtain ⟨h1, h2, h3, h4⟩ := front r h.1 (segF l)
    refine ⟨h1, h2.symm, (segF l).size, ?_, ?_⟩
    · show (textR r ++ segF l).size = 1 + nOf (textR r ++ segF l) + (segF l).size
      rw [h3, ByteArray.size_append]
    · show Rd (restOf (textR r ++ segF l)) l (segF l).size
      rw [h4]
      exact rd_full l h.2
theorem rd_pre : ∀ l : List Q, l.all goodR = true → ∀ keep, keep ≤ (segF l).size → ∃ j, j ≤ l.length ∧ Rd ((segF l).extract 0 keep) (l.take j) (segF (l.take j)).size ∧ (segF l).extract 0 (segF (l.take j)).size = segF (l.take j)
  | [], _, keep, _ => ⟨0, Nat.le_refl _, rd_none _ (by rw [ByteArray.size_extract]; show min keep 0 - 0 = 0; omega), ByteArray.extract_same⟩
  | r :: l, h, keep, hk => by
    rw [List.all_cons, Bool.and_eq_true] at h
    have hsg : segF (r :: l) = textR r ++ segF l := rfl
    rw [hsg] at hk ⊢
    rw [ByteArray.size_append] at hk
    obtain ⟨h1, h2, h3, h4⟩ := front r h.1 (segF l)
    by_cases c : keep < (textR r).size
    · refine ⟨0, Nat.zero_le _, ⟨rfl, fun hr => ?_⟩, ByteArray.extract_same⟩
      have q := hr.2.1
      rw [ByteArray.size_extract, ByteArray.size_append] at q
      have e := bt_extract0 (textR r ++ segF l) keep 0 (by omega) (by rw [ByteArray.size_append]; omega)
      have e2 : nOf ((textR r ++ segF l).extract 0 keep) = nOf (textR r ++ segF l) := by
        unfold nOf
        exact congrArg Int.toNat e
      omega
    · have hx : (textR r ++ segF l).extract 0 keep = textR r ++ (segF l).extract 0 (keep - (textR r).size) := by
        rw [ByteArray.extract_append, extract_all (textR r) keep (by omega), Nat.zero_sub]
      obtain ⟨j, hj, hR, hE⟩ := rd_pre l h.2 (keep - (textR r).size) (by omega)
      obtain ⟨f1, f2, f3, f4⟩ := front r h.1 ((segF l).extract 0 (keep - (textR r).size))
      refine ⟨j + 1, Nat.succ_le_succ hj, ?_, ?_⟩
      · rw [hx, List.take_succ_cons]
        refine ⟨f1, f2.symm, (segF (l.take j)).size, ?_, ?_⟩
        · show (textR r ++ segF (l.take j)).size = _
          rw [f3, ByteArray.size_append]
        · rw [f4]
          exact hR
      · rw [List.take_succ_cons]
        show (textR r ++ segF l).extract 0 (textR r ++ segF (l.take j)).size = textR r ++ segF (l.take j)
        rw [ByteArray.extract_append, ByteArray.size_append, extract_all (textR r) _ (by omega), Nat.zero_sub, Nat.add_sub_cancel_left, hE]

end Go.Proofs.Ytjpeedbabjaidaa.Pure
