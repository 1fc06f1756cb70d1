/- Records come back from their segment, and of a torn one the first ones: for all drawn records, with no condition. -/
import Derived.Test.YtjpeedbabjaidaaPRx11
import Derived.Test.YtjpeedbabjaidaaPRx2
import Derived.Test.YtjpeedbabjaidaaPRx4
import Derived.Test.YtjpeedbabjaidaaPRx5
import Derived.Test.YtjpeedbabjaidaaPRx6
import Derived.Test.YtjpeedbabjaidaaPRx7
import Derived.Test.YtjpeedbabjaidaaPRx8
import Derived.Test.YtjpeedbabjaidaaFront
import Derived.Test.YtjpeedbabjaidaaRecordDraws
import Derived.Test.YtjpeedbabjaidaaSameRecs
import Derived.Test.YtjpeedbabjaidaaNumbers
namespace Go.Proofs.Ytjpeedbabjaidaa.Pure
open Go.RowKit Go.Proofs.Ytjpeedbabjaidaa.PR Go.Proofs.YtjpeedbabjaidaaW.PrintWords Go.Proofs.YtjpeedbabjaidaaW.PrintLast
set_option linter.unusedVariables false
set_option linter.unusedSimpArgs false

theorem readSeg_both (x : ByteArray) (hx : x.size ≤ 1048576) : ∃ (L : List Q) (e : Int) (b : Bool), L.length ≤ 1048576 ∧ Ev (fun k => spec_ReadSegment.f k x) (L, e, b) ∧ Ev (fun k => impl_ReadSegment.f k x) (L, e, b) := by
  unfold spec_ReadSegment.f impl_ReadSegment.f
  by_cases c1 : (x.size : Int) > 300
  · simp only [if_pos c1]
    exact ⟨[], 0, false, by simp, Ev.now _, Ev.now _⟩
  · simp only [if_neg c1]
    obtain ⟨L, e, h3, h4, h5, h6⟩ := segs_ev x (by omega)
    exact ⟨L, (e : Int), true, by omega, Ev.bind h5 (Ev.now _), Ev.bind h6 (Ev.now _)⟩
theorem torn_both (x : ByteArray) (a : Int) : ∃ (s : ByteArray) (b : Bool), Ev (fun k => spec_TornSegment.f k x a) (s, b) ∧ Ev (fun k => impl_TornSegment.f k x a) (s, b) := by
  unfold spec_TornSegment.f impl_TornSegment.f
  simp only [within_eq, in_eq, Option.bind_some]
  by_cases c1 : (x.size : Int) > 300
  · simp only [if_pos c1]
    exact ⟨_, _, Ev.now _, Ev.now _⟩
  · simp only [if_neg c1]
    by_cases c2 : 0 ≤ a
    · by_cases c3 : a ≤ (x.size : Int)
      · obtain ⟨L, e, h3, _, h5, h6⟩ := segs_ev (x.extract 0 a.toNat) (by rw [ByteArray.size_extract]; omega)
        rw [ByteArray.size_extract] at h3
        have d1 : (0 : Int) ≤ (e : Int) := by omega
        have d2 : (e : Int) ≤ (x.size : Int) := by omega
        simp only [decide_eq_true c2, decide_eq_true c3, Bool.and_self, if_true, if_pos c2, if_pos c3]
        refine ⟨x.extract 0 ((e : Int)).toNat, true, Ev.bind h5 ?_, Ev.bind h6 ?_⟩
        · simp only [if_pos d1, if_pos d2]
          exact Ev.now _
        · simp only [if_pos d1, if_pos d2]
          exact Ev.now _
      · simp only [decide_eq_false c3, Bool.and_false, Bool.false_eq_true, if_false]
        exact ⟨_, _, Ev.now _, Ev.now _⟩
    · simp only [decide_eq_false c2, Bool.false_and, Bool.false_eq_true, if_false]
      exact ⟨_, _, Ev.now _, Ev.now _⟩
theorem readRec_both (x : ByteArray) (hx : x.size ≤ 1048576) (a : Int) : ∃ q : Got, Ev (fun k => spec_ReadRecord.f k x a) q ∧ Ev (fun k => impl_ReadRecord.f k x a) q ∧
    (q.2.2.2.2.2 = true → ∃ n m : Nat, a = (n : Int) ∧ q.2.2.2.2.1 = (m : Int) ∧ n ≤ m ∧ m ≤ x.size ∧ goodB q.1 q.2.1 q.2.2.1 q.2.2.2.1 = true ∧ x.extract n m = textV q.1 q.2.1 q.2.2.1 q.2.2.2.1) := by
  have st : ∀ b, b = true → Ev (fun k => spec_ReadRecord.j0 k x a b) (0, 0, 0, ⟨#[]⟩, 0, false) := fun b e => by subst e; exact Ev.stepc (fun k => by rw [spec_ReadRecord.j0, if_pos rfl])
  have it : ∀ b, b = true → Ev (fun k => impl_ReadRecord.j0 k x a b) (0, 0, 0, ⟨#[]⟩, 0, false) := fun b e => by subst e; exact Ev.stepc (fun k => by rw [impl_ReadRecord.j0, if_pos rfl])
  unfold spec_ReadRecord.f impl_ReadRecord.f
  simp only [within_eq, Option.bind_some]
  by_cases c1 : (x.size : Int) > 300
  · simp only [if_pos c1]
    exact ⟨_, st _ rfl, it _ rfl, fun h => Bool.noConfusion h⟩
  · simp only [if_neg c1]
    by_cases c2 : a < 0
    · exact ⟨_, st _ (decide_eq_true c2), it _ (by rw [decide_eq_false (show ¬ 0 ≤ a by omega)]; rfl), fun h => Bool.noConfusion h⟩
    · obtain ⟨n, rfl⟩ := Int.eq_ofNat_of_zero_le (show 0 ≤ a by omega)
      rw [decide_eq_false c2]
      have hsp := spec_read_ev x hx n
      by_cases c3 : n ≤ x.size
      · rw [decide_eq_true (show (0 : Int) ≤ (n : Int) by omega), decide_eq_true (show (n : Int) ≤ (x.size : Int) by omega)]
        have him := impl_read_ev (tailOf x n) (by rw [tail_size]; omega)
        have d1 : (0 : Int) ≤ (n : Int) := by omega
        have d2 : (n : Int) ≤ (x.size : Int) := by omega
        have is : ∀ k, impl_ReadRecord.j0 (k + 1) x (n : Int) (!(true && true)) = (impl_readRecord.f k (tailOf x n)).bind fun bt160 => (if bt160.2.2.2.2.2 = true then (some ((bt160.1, bt160.2.1, bt160.2.2.1, bt160.2.2.2.1, wrap64 ((n : Int) + bt160.2.2.2.2.1), true) : Got)) else (some (0, 0, 0, (⟨#[]⟩ : ByteArray), 0, false))) := fun k => by
          rw [impl_ReadRecord.j0, if_neg (by decide), if_pos d1, if_pos d2, Int.toNat_natCast]
          rfl
        have ss : ∀ k, spec_ReadRecord.j0 (k + 1) x (n : Int) false = (spec_l3Read.f k x (n : Int)).bind fun bt160 => (if bt160.2.2.2.2 < 0 then (some ((0, 0, 0, (⟨#[]⟩ : ByteArray), 0, false) : Got)) else (some (bt160.1, bt160.2.1, bt160.2.2.1, bt160.2.2.2.1, bt160.2.2.2.2, true))) := fun k => by
          rw [spec_ReadRecord.j0, if_neg (by decide)]
        have hn := nOf_le (tailOf x n)
        by_cases hr : hasRec (tailOf x n)
        · rw [specV_yes hr] at hsp
          rw [readV_yes hr] at him
          refine ⟨(bt (partOf (tailOf x n)) 0, bt (partOf (tailOf x n)) 1, bt (partOf (tailOf x n)) 2, dataOf (tailOf x n), ((n + 1 + nOf (tailOf x n) : Nat) : Int), true), Ev.step ss (Ev.bind hsp ?_), Ev.step is (Ev.bind him ?_), fun _ => ?_⟩
          · have d3 : ¬ ((n + 1 + nOf (tailOf x n) : Nat) : Int) < 0 := by omega
            simp only [if_neg d3]
            exact Ev.now _
          · simp only [if_true]
            rw [wadd n (1 + nOf (tailOf x n)) (by omega), Nat.add_assoc]
            exact Ev.now _
          · obtain ⟨q1, q2, q3, q4⟩ := hr
            rw [tail_size] at q2
            unfold goodAt at q3
            have q5 := (toList_inj q4).symm
            rw [← tail_front x n _ (by omega)] at q5
            have q6 : n ≤ n + 1 + nOf (tailOf x n) := by omega
            have q7 : n + 1 + nOf (tailOf x n) ≤ x.size := by omega
            dsimp only
            exact ⟨n, n + 1 + nOf (tailOf x n), rfl, rfl, q6, q7, q3, q5⟩
        · rw [specV_no hr] at hsp
          rw [readV_no hr] at him
          refine ⟨(0, 0, 0, ⟨#[]⟩, 0, false), Ev.step ss (Ev.bind hsp ?_), Ev.step is (Ev.bind him ?_), fun h => Bool.noConfusion h⟩
          · exact Ev.now _
          · exact Ev.now _
      · have hr : ¬ hasRec (tailOf x n) := fun h => by have q2 := h.2.1; rw [tail_size] at q2; omega
        rw [specV_no hr] at hsp
        have ss : ∀ k, spec_ReadRecord.j0 (k + 1) x (n : Int) false = (spec_l3Read.f k x (n : Int)).bind fun bt160 => (if bt160.2.2.2.2 < 0 then (some ((0, 0, 0, (⟨#[]⟩ : ByteArray), 0, false) : Got)) else (some (bt160.1, bt160.2.1, bt160.2.2.1, bt160.2.2.2.1, bt160.2.2.2.2, true))) := fun k => by
          rw [spec_ReadRecord.j0, if_neg (by decide)]
        refine ⟨(0, 0, 0, ⟨#[]⟩, 0, false), Ev.step ss (Ev.bind hsp ?_), it _ (by rw [decide_eq_false (show ¬ (n : Int) ≤ (x.size : Int) by omega), Bool.and_false]; rfl), fun h => Bool.noConfusion h⟩
        exact Ev.now _
theorem j2_ev (w : ByteArray) (fr : Int) (q : Got) (h : q.2.2.2.2.2 = true → ∃ n m : Nat, fr = (n : Int) ∧ q.2.2.2.2.1 = (m : Int) ∧ n ≤ m ∧ m ≤ w.size ∧ goodB q.1 q.2.1 q.2.2.1 q.2.2.2.1 = true ∧ w.extract n m = textV q.1 q.2.1 q.2.2.1 q.2.2.2.1) : Ev (fun k => laws_FnRecords.j2 k w fr q.2.2.2.2.1 q.2.2.2.2.2 false q.1 q.2.1 q.2.2.1 q.2.2.2.1) true := by
  refine Ev.stepc (fun k => ?_)
  rw [laws_FnRecords.j2, if_neg (by decide)]
  cases hq : q.2.2.2.2.2 with
  | false => rw [if_neg (by decide)]
  | true =>
    obtain ⟨n, m, h1, h2, h3, h4, h5, h6⟩ := h hq
    have hd := good_size h5
    have ht : impl_RecordText.f q.1 q.2.1 q.2.2.1 q.2.2.2.1 = some (textV q.1 q.2.1 q.2.2.1 q.2.2.2.1, true) := by
      unfold impl_RecordText.f
      rw [impl_good, Option.bind_some, h5, if_pos rfl, impl_text _ _ _ _ (by omega), Option.bind_some]
    rw [if_pos rfl, ht, Option.bind_some, if_pos rfl, h1, h2, if_pos (by omega), if_pos (by omega), if_pos (by omega), Int.toNat_natCast, Int.toNat_natCast, h6]
    simp
theorem j1_ev (l : List Int) (hl : ∀ x ∈ l, 0 ≤ x ∧ x ≤ 255) : Ev (fun k => laws_FnRecords.j1 k l) true := by
  obtain ⟨u, hu, hus⟩ := drawReadSegment_ev l hl
  obtain ⟨v, hv, hvs⟩ := drawTornSegment_ev l hl
  obtain ⟨w, hw, hws⟩ := drawReadRecord_ev l hl
  obtain ⟨L, e, b, hn, h1, h2⟩ := readSeg_both u (by omega)
  obtain ⟨s, b2, h3, h4⟩ := torn_both v.1 v.2
  obtain ⟨q, h5, h6, h7⟩ := readRec_both w.1 (by omega) w.2
  refine Ev.step (fun k => by rw [laws_FnRecords.j1]) ?_
  refine Ev.bind hu (Ev.bind h2 (Ev.bind h1 (Ev.bind hv (Ev.bind h4 (Ev.bind h3 (Ev.bind hw (Ev.bind h6 (Ev.bind h5 ?_))))))))
  simp only [bne_self_eq_false, Bool.false_eq_true, if_false, if_true]
  refine Ev.bind (recs_self L (by omega)) ?_
  simp only [bne_self_eq_false, Bool.false_eq_true, if_false, if_true, beq_self_eq_true, Bool.not_true, Bool.or_self]
  exact j2_ev w.1 w.2 q h7
theorem j0_ev (l : List Int) (hl : ∀ x ∈ l, 0 ≤ x ∧ x ≤ 255) (hb : l.length ≤ 1099511627776) (L : List Q) (hL : L.length ≤ 1000) (s : ByteArray) (b : Bool) (hs : s.size ≤ 300) (hB : b = true → L.all goodR = true ∧ s = segV ⟨#[]⟩ L) : Ev (fun k => laws_FnRecords.j0 k l L s b false) true := by
  refine Ev.step (fun k => by rw [laws_FnRecords.j0]) ?_
  simp only [Bool.false_eq_true, if_false]
  cases b with
  | false =>
    simp only [Bool.false_eq_true, if_false]
    exact j1_ev l hl
  | true =>
    simp only [if_true]
    obtain ⟨hg, hE⟩ := hB rfl
    rw [segV_nil] at hE
    subst hE
    have r1 := readSeg_rd (segF L) hs L _ (rd_full L hg)
    obtain ⟨n, hn, n0, n1⟩ := numberOf_ev l hl hb
    have ew : wrap64 (((segF L).size : Int) + 1) = ((segF L).size : Int) + 1 := w64 (by omega) (by omega)
    have em : Int.tmod n (((segF L).size : Int) + 1) = n % (((segF L).size : Int) + 1) := Int.tmod_eq_emod_of_nonneg n0
    have m0 : 0 ≤ n % (((segF L).size : Int) + 1) := Int.emod_nonneg _ (by omega)
    have m1 : n % (((segF L).size : Int) + 1) < ((segF L).size : Int) + 1 := Int.emod_lt_of_pos _ (by omega)
    generalize n % (((segF L).size : Int) + 1) = a at em m0 m1
    obtain ⟨j, hj, hR, hE⟩ := rd_pre L hg a.toNat (by omega)
    obtain ⟨t1, t2⟩ := torn_rd (segF L) hs a m0 (by omega) _ _ hR
    rw [hE] at t2
    have hg2 : (L.take j).all goodR = true := List.all_eq_true.2 fun x hx => List.all_eq_true.1 hg x (List.mem_of_mem_take hx)
    have r2 := readSeg_rd (segF (L.take j)) (by omega) (L.take j) _ (rd_full _ hg2)
    have hl2 : (L.take j).length = j := by rw [List.length_take]; omega
    have c1 : ¬ ((segF L).size : Int) + 1 = 0 := by omega
    refine Ev.bind r1 (Ev.bind hn ?_)
    simp only [ew, em, if_neg c1]
    refine Ev.bind t2 (Ev.bind r2 ?_)
    simp only [if_true]
    refine Ev.bind (recs_self L (by omega)) ?_
    have c2 : ¬ (((L.take j).length : Nat) : Int) > (L.length : Int) := by omega
    have c3 : (0 : Int) ≤ (((L.take j).length : Nat) : Int) := by omega
    have c4 : (((L.take j).length : Nat) : Int) ≤ (L.length : Int) := by omega
    simp only [if_true, if_neg c2, if_pos c3, if_pos c4]
    rw [Int.toNat_natCast, hl2]
    refine Ev.bind (recs_self (L.take j) (by omega)) ?_
    simp only [if_true]
    exact j1_ev l hl
theorem FnRecords : laws_FnRecords.Pure := by
  intro l0 l1 p1 _ hw0 p2 _ hw1
  have hl0 : ∀ x ∈ l0, 0 ≤ x ∧ x ≤ 255 := fun x hx => by simpa [Lit.wf, IntKind.min, IntKind.max, IntKind.signed, IntKind.bits] using hw0 x hx
  have hl1 : ∀ x ∈ l1, 0 ≤ x ∧ x ≤ 255 := fun x hx => by simpa [Lit.wf, IntKind.min, IntKind.max, IntKind.signed, IntKind.bits] using hw1 x hx
  suffices h : Ev (fun k => laws_FnRecords.f k l0 l1) true from h.rounds
  unfold laws_FnRecords.f
  by_cases c0 : wrap64 ((l0.length : Int) + (l1.length : Int)) > 1048576
  · simp only [if_pos c0]
    exact Ev.now true
  · simp only [if_neg c0]
    have hb : l1.length ≤ 1099511627776 := by
      unfold maxLen at p1 p2
      unfold wrap64 at c0
      omega
    obtain ⟨L, hL, h1⟩ := drawSegmentText_ev l0 hl0
    obtain ⟨s, b, h2, h3, h4, h5⟩ := segText_ev L (by omega)
    refine Ev.bind hL (Ev.bind h3 (Ev.bind h2 ?_))
    simp only [bne_self_eq_false, Bool.false_eq_true, if_false]
    exact j0_ev l1 hl1 hb L (by omega) s b h4 h5

end Go.Proofs.Ytjpeedbabjaidaa.Pure
