/- Plain lemmas on what the printed functions answer: numbers and lists alone. -/
import Derived.Test.YtlfgkodipeofiaaPFx0
import Derived.Test.YtlfgkodipeofiaaPFx3
import Derived.Test.YtlfgkodipeofiaaPFx5
import Derived.Test.YtlfgkodipeofiaaBytesNil
namespace Go.Proofs.Ytlfgkodipeofiaa.Pure
open Go.RowKit Go.Proofs.Ytlfgkodipeofiaa.PF Go.Proofs.YtlfgkodipeofiaaW.PrintWords Go.Proofs.YtlfgkodipeofiaaW.PrintLast
set_option linter.unusedVariables false
set_option linter.unusedSimpArgs false

theorem ext_ext (s : ByteArray) (i n : Nat) (h : i ≤ s.size) : (s.extract i s.size).extract n (s.extract i s.size).size = s.extract (i + n) s.size := by
  rw [ByteArray.extract_extract, ByteArray.size_extract]
  congr 1
  omega
theorem ext_front (s : ByteArray) (i n : Nat) (h : i + n ≤ s.size) : (s.extract i s.size).extract 0 n = s.extract i (i + n) := by
  rw [ByteArray.extract_extract]
  congr 1
  omega
theorem bt_ext (s : ByteArray) (i n : Nat) (h : i + n < s.size) : bt (s.extract i s.size) (n : Int) = bt s ((i + n : Nat) : Int) := by
  have h1 : n < (s.extract i s.size).size := by rw [ByteArray.size_extract]; omega
  rw [← bt_at _ _ (show ((n : Int)).toNat < (s.extract i s.size).size from h1), ← bt_at s ((i + n : Nat) : Int) (show (((i + n : Nat) : Int)).toNat < s.size by rw [Int.toNat_natCast]; omega)]
  have := ByteArray.getElem_extract (b := s) (start := i) (stop := s.size) (i := n) h1
  simp only [Int.toNat_natCast]
  rw [this]
/-- the first whole block, from place x on, that is the text's beginning: both tell it alike -/
theorem find_ev (old s : ByteArray) (i : Nat) (ho : old.size ≤ 120) (hi : i + 4 ≤ s.size) (hs : s.size ≤ 120) : ∀ (d x : Nat), old.size ≤ x + 4 * d → x + 4 * d ≤ 400 →
    ∃ r : Int, (r < 0 ∨ (0 ≤ r ∧ r + 4 ≤ (old.size : Int))) ∧ Ev (fun k => spec_l11Find.l0 k old (s.extract i (i + 4)) (x : Int)) (if r < 0 then -1 else r) ∧ Ev (fun k => impl_block.l0 k old (s.extract i s.size) (x : Int)) (if r < 0 then 0 else r, decide (0 ≤ r))
  | 0, x, h, hx => by
    have e : ¬ wrap64 ((x : Int) + 4) ≤ (old.size : Int) := by rw [w64 (by omega) (by omega)]; omega
    refine ⟨-1, .inl (by omega), Ev.stepc (fun k => ?_), Ev.stepc (fun k => ?_)⟩
    · simp only [spec_l11Find.l0]
      rw [if_neg e]
      rfl
    · simp only [impl_block.l0]
      rw [if_neg e]
      rfl
  | d + 1, x, h, hx => by
    by_cases c : wrap64 ((x : Int) + 4) ≤ (old.size : Int)
    · have e4 : wrap64 ((x : Int) + 4) = ((x + 4 : Nat) : Int) := by rw [w64 (by omega) (by omega)]; omega
      have hsz : (s.extract i s.size).size = s.size - i := by rw [ByteArray.size_extract]; omega
      by_cases q : (old.extract x (x + 4)).toList = (s.extract i (i + 4)).toList
      · refine ⟨(x : Int), .inr ⟨by omega, by omega⟩, Ev.stepc (fun k => ?_), Ev.stepc (fun k => ?_)⟩
        · simp only [spec_l11Find.l0]
          rw [e4] at c ⊢
          rw [if_pos c, if_pos (by omega), if_pos (by omega), Int.toNat_natCast, Int.toNat_natCast, if_pos q, if_neg (by omega)]
        · simp only [impl_block.l0]
          rw [e4] at c ⊢
          rw [if_pos c, if_pos (by omega), if_pos (by omega), if_pos (by omega), if_pos (by omega), Int.toNat_natCast, Int.toNat_natCast, ext_front s i 4 hi, if_pos q, if_neg (by omega), decide_eq_true (show (0 : Int) ≤ (x : Int) by omega)]
      · obtain ⟨r, hr, h1, h2⟩ := find_ev old s i ho hi hs d (x + 4) (by omega) (by omega)
        refine ⟨r, hr, Ev.step (fun k => ?_) h1, Ev.step (fun k => ?_) h2⟩
        · simp only [spec_l11Find.l0]
          rw [e4] at c ⊢
          rw [if_pos c, if_pos (by omega), if_pos (by omega), Int.toNat_natCast, Int.toNat_natCast, if_neg q]
        · simp only [impl_block.l0]
          rw [e4] at c ⊢
          rw [if_pos c, if_pos (by omega), if_pos (by omega), if_pos (by omega), if_pos (by omega), Int.toNat_natCast, Int.toNat_natCast, ext_front s i 4 hi, if_neg q]
    · refine ⟨-1, .inl (by omega), Ev.stepc (fun k => ?_), Ev.stepc (fun k => ?_)⟩
      · simp only [spec_l11Find.l0]
        rw [if_neg c]
        rfl
      · simp only [impl_block.l0]
        rw [if_neg c]
        rfl
theorem wsum {a n : Nat} (h : a + n ≤ 4611686018427387904) : wrap64 ((a : Int) + (n : Int)) = ((a + n : Nat) : Int) := by
  rw [w64 (by omega) (by omega)]
  omega
theorem wfour {i : Nat} (h : i ≤ 4611686018427387904) : wrap64 ((i : Int) + 4) = ((i + 4 : Nat) : Int) := by
  rw [w64 (by omega) (by omega)]
  omega
/-- how far a block goes on: both count alike, and go on alike behind it -/
theorem grow_ev (old s : ByteArray) (i a : Nat) (out : List S59) (ho : old.size ≤ 120) (hi : i ≤ s.size) (hs : s.size ≤ 120) (ha : a ≤ 120) (hl : out.length ≤ 1000) : ∀ (d n : Nat), i + n + d = s.size →
    ∃ m : Nat, n ≤ m ∧ i + m ≤ s.size ∧ (∀ R, Ev (fun k => spec_l11Delta.l0 k old s (out ++ [(⟨(a : Int), (m : Int), ⟨#[]⟩⟩ : S59)]) ⟨#[]⟩ ((i + m : Nat) : Int)) R → Ev (fun k => spec_l11Delta.l1 k old s out ⟨#[]⟩ (i : Int) (a : Int) (n : Int)) R) ∧
      (∀ R, Ev (fun k => impl_delta.l0 k old (s.extract (i + m) s.size) (out ++ [(⟨(a : Int), (m : Int), ⟨#[]⟩⟩ : S59)]) ⟨#[]⟩) R → Ev (fun k => impl_delta.l1 k old (s.extract i s.size) out (a : Int) (n : Int)) R) := by
  have hsz : (s.extract i s.size).size = s.size - i := by rw [ByteArray.size_extract]; omega
  have fin : ∀ n : Nat, i + n ≤ s.size → ∀ R, Ev (fun k => impl_delta.l0 k old (s.extract (i + n) s.size) (out ++ [(⟨(a : Int), (n : Int), ⟨#[]⟩⟩ : S59)]) ⟨#[]⟩) R → Ev (fun k => impl_delta.j1 k old (s.extract i s.size) out (a : Int) (n : Int)) R := by
    intro n hn R h
    refine Ev.step (fun k => ?_) h
    simp only [impl_delta.j1]
    rw [if_pos (by omega), if_pos (by omega), if_pos (by omega), Int.toNat_natCast, ext_ext s i n hi]
  intro d
  induction d with
  | zero =>
    intro n hn
    refine ⟨n, Nat.le_refl _, by omega, fun R h => Ev.step (fun k => ?_) h, fun R h => Ev.step (fun k => ?_) (fin n (by omega) R h)⟩
    · simp only [spec_l11Delta.l1]
      rw [wsum (a := a) (n := n) (by omega), wsum (a := i) (n := n) (by omega), if_neg (c := ((i + n : Nat) : Int) < (s.size : Int)) (by omega)]
      rw [if_pos (c := out.length < 4398046511104) (by omega)]
      simp
    · simp only [impl_delta.l1]
      rw [if_neg (by omega)]
  | succ d ih =>
    intro n hn
    have e4 := bt_ext s i n (by omega)
    by_cases c1 : ((a + n : Nat) : Int) < (old.size : Int)
    · by_cases c2 : bt old ((a + n : Nat) : Int) = bt s ((i + n : Nat) : Int)
      · obtain ⟨m, h1, h2, h3, h4⟩ := ih (n + 1) (by omega)
        refine ⟨m, by omega, h2, fun R h => Ev.step (fun k => ?_) (h3 R h), fun R h => Ev.step (fun k => ?_) (h4 R h)⟩
        · simp only [spec_l11Delta.l1]
          rw [wsum (a := a) (n := n) (by omega), wsum (a := i) (n := n) (by omega), wnat (i := n) (by omega), if_pos c1, if_pos (by omega), if_pos (by omega), if_pos (by omega), if_pos c2]
        · simp only [impl_delta.l1]
          rw [if_pos (by omega), wsum (a := a) (n := n) (by omega), wnat (i := n) (by omega), if_pos c1, if_pos (by omega), if_pos (by omega), e4, if_pos c2]
      · refine ⟨n, Nat.le_refl _, by omega, fun R h => Ev.step (fun k => ?_) h, fun R h => Ev.step (fun k => ?_) (fin n (by omega) R h)⟩
        · simp only [spec_l11Delta.l1]
          rw [wsum (a := a) (n := n) (by omega), wsum (a := i) (n := n) (by omega), if_pos c1, if_pos (by omega), if_pos (by omega), if_pos (by omega), if_neg c2, if_pos (by omega)]
        · simp only [impl_delta.l1]
          rw [if_pos (by omega), wsum (a := a) (n := n) (by omega), if_pos c1, if_pos (by omega), if_pos (by omega), e4, if_neg c2]
    · refine ⟨n, Nat.le_refl _, by omega, fun R h => Ev.step (fun k => ?_) h, fun R h => Ev.step (fun k => ?_) (fin n (by omega) R h)⟩
      · simp only [spec_l11Delta.l1]
        rw [wsum (a := a) (n := n) (by omega), wsum (a := i) (n := n) (by omega), if_neg c1, if_pos (by omega)]
      · simp only [impl_delta.l1]
        rw [if_pos (by omega), wsum (a := a) (n := n) (by omega), if_neg c1]
theorem deltaOut_len (out : List S59) (t : ByteArray) : (deltaOut out t).length ≤ out.length + 1 := by
  unfold deltaOut
  split
  · omega
  · simp
def dGo (old s : ByteArray) (out : List S59) (t : ByteArray) (k : Nat) (p : Int × Bool) : Option (List S59) :=
  if p.2 = true then (if out.length < 4398046511104 then impl_delta.l1 k old s (deltaOut out t) p.1 4 else none) else (if 1 ≤ (s.size : Int) then (if t.size + (s.extract 0 1).size ≤ 9223372036854775807 then impl_delta.l0 k old (s.extract 1 s.size) out (t ++ s.extract 0 1) else none) else none)
theorem dGo_step (old s : ByteArray) (out : List S59) (t : ByteArray) (h : ¬ s.toList = ([] : List UInt8)) (k : Nat) : impl_delta.l0 (k + 1) old s out t = (impl_block.f k old s).bind (dGo old s out t k) := by
  simp only [impl_delta.l0]
  rw [if_neg h]
  rfl
/-- both make one delta of a text -/
theorem delta_l0 (old s : ByteArray) (ho : old.size ≤ 120) (hs : s.size ≤ 120) : ∀ (b d i : Nat) (out : List S59) (t : ByteArray), d ≤ b → i + d = s.size → out.length ≤ i → t.size ≤ i →
    ∃ R, R.length ≤ s.size + 1 ∧ Ev (fun k => spec_l11Delta.l0 k old s out t (i : Int)) R ∧ Ev (fun k => impl_delta.l0 k old (s.extract i s.size) out t) R := by
  intro b
  induction b with
  | zero =>
    intro d i out t hd hi hl ht
    have hsz : (s.extract i s.size).size = s.size - i := by rw [ByteArray.size_extract]; omega
    refine ⟨deltaOut out t, Nat.le_trans (deltaOut_len _ _) (by omega), Ev.stepc (fun k => ?_), Ev.stepc (fun k => ?_)⟩
    · simp only [spec_l11Delta.l0]
      rw [if_neg (by omega)]
      unfold deltaOut
      by_cases c : t.toList = ([] : List UInt8)
      · rw [if_pos c, if_pos c]
      · rw [if_neg c, if_neg c, if_pos (by omega)]
    · simp only [impl_delta.l0]
      rw [if_pos (size_nil _ (by omega)), if_pos (by omega)]
  | succ b ih =>
    intro d i out t hd hi hl ht
    have hsz : (s.extract i s.size).size = s.size - i := by rw [ByteArray.size_extract]; omega
    by_cases hd0 : d = 0
    · exact ih d i out t (by omega) hi hl ht
    · have hne : ¬ (s.extract i s.size).toList = ([] : List UInt8) := fun h => by have := bytes_nil _ h; omega
      -- one byte more in the words
      have miss : (∀ R, Ev (fun k => spec_l11Delta.j1 k old s out t (i : Int) (-1)) R → Ev (fun k => spec_l11Delta.l0 k old s out t (i : Int)) R) → Ev (fun k => impl_block.f k old (s.extract i s.size)) (0, false) →
          ∃ R, R.length ≤ s.size + 1 ∧ Ev (fun k => spec_l11Delta.l0 k old s out t (i : Int)) R ∧ Ev (fun k => impl_delta.l0 k old (s.extract i s.size) out t) R := by
        intro hspec himpl
        have s1 : (s.extract i (i + 1)).size = 1 := by rw [ByteArray.size_extract]; omega
        obtain ⟨R, hR, h1, h2⟩ := ih (d - 1) (i + 1) out (t ++ s.extract i (i + 1)) (by omega) (by omega) (by omega) (by rw [ByteArray.size_append, s1]; omega)
        refine ⟨R, hR, hspec R (Ev.step (fun k => ?_) h1), Ev.step (f := fun k => (impl_block.f k old (s.extract i s.size)).bind (dGo old (s.extract i s.size) out t k)) (fun k => dGo_step _ _ _ _ hne k) (Ev.bind himpl ?_)⟩
        · simp only [spec_l11Delta.j1]
          rw [if_pos (by omega), if_pos (by omega), wnat (i := i) (by omega), if_pos (by omega), if_pos (by omega), Int.toNat_natCast, Int.toNat_natCast, if_pos (by rw [s1]; omega)]
        · simp only [dGo, Bool.false_eq_true, if_false]
          rw [ext_front s i 1 (by omega), ext_ext s i 1 (by omega), s1]
          have g1 : 1 ≤ ((s.extract i s.size).size : Int) := by omega
          have g2 : t.size + 1 ≤ 9223372036854775807 := by omega
          simp only [if_pos g1, if_pos g2]
          exact h2
      by_cases c4 : i + 4 ≤ s.size
      · obtain ⟨r, hr, f1, f2⟩ := find_ev old s i ho c4 hs 30 0 (by omega) (by omega)
        have b1 : Ev (fun k => impl_block.f k old (s.extract i s.size)) (if r < 0 then 0 else r, decide (0 ≤ r)) := by
          unfold impl_block.f
          have g : ¬ (((s.extract i s.size).size : Int) < 4) := by omega
          simp only [if_neg g]
          exact f2
        have b2 : ∀ R, Ev (fun k => spec_l11Delta.j1 k old s out t (i : Int) (if r < 0 then -1 else r)) R → Ev (fun k => spec_l11Delta.l0 k old s out t (i : Int)) R := by
          intro R h
          refine Ev.step (f := fun k => (spec_l11Find.f k old (s.extract i (i + 4))).bind fun t109 => spec_l11Delta.j1 k old s out t (i : Int) t109) (fun k => ?_) (Ev.bind f1 h)
          simp only [spec_l11Delta.l0]
          rw [if_pos (by omega), wfour (i := i) (by omega), if_pos (by omega), if_pos (by omega), if_pos (by omega), Int.toNat_natCast, Int.toNat_natCast]
        rcases hr with hr | hr
        · rw [if_pos hr] at b2
          rw [if_pos hr, decide_eq_false (by omega)] at b1
          exact miss b2 b1
        · rw [if_neg (by omega)] at b2
          rw [if_neg (by omega), decide_eq_true hr.1] at b1
          obtain ⟨a, rfl⟩ := Int.eq_ofNat_of_zero_le hr.1
          have hdl := deltaOut_len out t
          obtain ⟨m, h1, h2, h3, h4⟩ := grow_ev old s i a (deltaOut out t) ho (by omega) hs (by omega) (by omega) (s.size - (i + 4)) 4 (by omega)
          obtain ⟨R, hR, g1, g2⟩ := ih (s.size - (i + m)) (i + m) (deltaOut out t ++ [(⟨(a : Int), (m : Int), ⟨#[]⟩⟩ : S59)]) ⟨#[]⟩ (by omega) (by omega) (by simp; omega) (by simp [ByteArray.size])
          refine ⟨R, hR, b2 R ?_, Ev.step (f := fun k => (impl_block.f k old (s.extract i s.size)).bind (dGo old (s.extract i s.size) out t k)) (fun k => dGo_step _ _ _ _ hne k) (Ev.bind b1 ?_)⟩
          · have j2 : ∀ o : List S59, o = deltaOut out t → Ev (fun k => spec_l11Delta.j2 k old s o (i : Int) (a : Int)) R := by
              intro o ho
              subst ho
              refine Ev.step (fun k => ?_) (h3 R g1)
              simp only [spec_l11Delta.j2]
              rfl
            by_cases c : t.toList = ([] : List UInt8)
            · refine Ev.step (fun k => ?_) (j2 out (by unfold deltaOut; rw [if_pos c]))
              simp only [spec_l11Delta.j1]
              rw [if_neg (by omega), if_pos c]
            · refine Ev.step (fun k => ?_) (j2 (out ++ [(⟨0, 0, t⟩ : S59)]) (by unfold deltaOut; rw [if_neg c]))
              simp only [spec_l11Delta.j1]
              rw [if_neg (by omega), if_neg c, if_pos (by omega)]
          · have g3 : out.length < 4398046511104 := by omega
            simp only [dGo, if_true, if_pos g3]
            exact h4 R g2
      · refine miss (fun R h => Ev.step (fun k => ?_) h) ?_
        · simp only [spec_l11Delta.l0]
          rw [if_pos (by omega), wfour (i := i) (by omega), if_neg (by omega)]
        · unfold impl_block.f
          have g : (((s.extract i s.size).size : Int) < 4) := by omega
          simp only [if_pos g]
          exact Ev.now _
theorem delta_ev (old s : ByteArray) (ho : old.size ≤ 120) (hs : s.size ≤ 120) : ∃ R, R.length ≤ 121 ∧ Ev (fun k => spec_l11Delta.f k old s) R ∧ Ev (fun k => impl_delta.f k old s) R := by
  obtain ⟨R, hR, h1, h2⟩ := delta_l0 old s ho hs s.size s.size 0 [] ⟨#[]⟩ (Nat.le_refl _) (by omega) (by simp) (by simp [ByteArray.size])
  refine ⟨R, by omega, h1, ?_⟩
  have e : s.extract 0 s.size = s := by simp
  rw [e] at h2
  exact h2

end Go.Proofs.Ytlfgkodipeofiaa.Pure
