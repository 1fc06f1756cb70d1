/- Plain lemmas on what the printed functions answer: numbers and lists alone. -/
import Derived.Test.YtjpeedbabjaidaaPRx10
import Derived.Test.YtjpeedbabjaidaaPRx7
import Derived.Test.YtjpeedbabjaidaaPRx8
import Derived.Test.YtjpeedbabjaidaaPRx9
import Derived.Test.YtjpeedbabjaidaaDraws
import Derived.Test.YtjpeedbabjaidaaSegLists
import Derived.Test.YtjpeedbabjaidaaAlls
import Derived.Test.YtjpeedbabjaidaaStringS
import Derived.Test.YtjpeedbabjaidaaDrawOne
namespace Go.Proofs.Ytjpeedbabjaidaa.Pure
open Go.RowKit Go.Proofs.Ytjpeedbabjaidaa.PR Go.Proofs.YtjpeedbabjaidaaW.PrintWords Go.Proofs.YtjpeedbabjaidaaW.PrintLast
set_option linter.unusedVariables false
set_option linter.unusedSimpArgs false

theorem rec_j1 (l : List Int) (hl : ∀ x ∈ l, 0 ≤ x ∧ x ≤ 255) (p sd a b c : Int) (d : ByteArray) (h0 : 0 ≤ p) (h1 : p ≤ 4611686018427380000) (hd : d.size ≤ 100) : ∃ r, Ev (fun k => spec_l1Cur_record.j1 k l p sd a b c d) r ∧ r.2.2.2.1.size ≤ d.size + 1 ∧ p ≤ r.2.2.2.2.1 ∧ r.2.2.2.2.1 ≤ p + 4 := by
  obtain ⟨x, q, s, e, hx0, hx1, hq0, hq1⟩ := pick_ev l hl p h0 (by omega) sd 60 (by omega)
  by_cases c0 : x = 0
  · obtain ⟨y, q2, s2, e2, _, hq2, hq3⟩ := among_ev l hl q (by omega) (by omega) s [(-1), 15, 200, 201] (by decide)
    refine ⟨(a, y, c, d, q2, s2), Ev.stepc (fun k => ?_), by show d.size ≤ _; omega, by show p ≤ q2; omega, by show q2 ≤ _; omega⟩
    rw [spec_l1Cur_record.j1, e, Option.bind_some, if_pos c0, e2]
    rfl
  · by_cases c1 : x = 1
    · obtain ⟨y, q2, s2, e2, _, _, hq2, hq3⟩ := pick_ev l hl q (by omega) (by omega) s 6 (by omega)
      refine ⟨(y, b, c, d, q2, s2), Ev.stepc (fun k => ?_), by show d.size ≤ _; omega, by show p ≤ q2; omega, by show q2 ≤ _; omega⟩
      rw [spec_l1Cur_record.j1, e, Option.bind_some, if_neg c0, if_pos c1, e2]
      rfl
    · by_cases c2 : x = 2
      · have h3 : d.size + 1 ≤ 9223372036854775807 := by omega
        refine ⟨(a, b, c, d ++ (⟨#[120]⟩ : ByteArray), q, s), Ev.stepc (fun k => ?_), by show (d ++ _).size ≤ _; rw [ByteArray.size_append]; exact Nat.le_refl _, by show p ≤ q; omega, by show q ≤ _; omega⟩
        rw [spec_l1Cur_record.j1, e, Option.bind_some, if_neg c0, if_neg c1, if_pos c2, if_pos h3]
      · refine ⟨(a, b, c, d, q, s), Ev.stepc (fun k => ?_), by show d.size ≤ _; omega, by show p ≤ q; omega, by show q ≤ _; omega⟩
        rw [spec_l1Cur_record.j1, e, Option.bind_some, if_neg c0, if_neg c1, if_neg c2]
theorem rec_l0 (l : List Int) (hl : ∀ x ∈ l, 0 ≤ x ∧ x ≤ 255) (a b : Int) (c : Nat) (hc : c ≤ 4) : ∀ (n m : Nat) (d : ByteArray) (p sd : Int), m + n = c → d.size ≤ 2 * m → 0 ≤ p → p + 4 * n ≤ 4611686018427370000 →
    ∃ r, Ev (fun k => spec_l1Cur_record.l0 k (m : Int) l p sd a b (c : Int) d) r ∧ r.2.2.2.1.size ≤ 9 ∧ p ≤ r.2.2.2.2.1 ∧ r.2.2.2.2.1 ≤ p + 4 * n + 4
  | 0, m, d, p, sd, hm, hd, h0, h1 => by
    obtain ⟨r, hr, h2, h3, h4⟩ := rec_j1 l hl p sd a b (c : Int) d h0 (by omega) (by omega)
    refine ⟨r, Ev.step (fun k => ?_) hr, by omega, h3, by omega⟩
    rw [spec_l1Cur_record.l0, if_neg (by omega)]
  | n + 1, m, d, p, sd, hm, hd, h0, h1 => by
    obtain ⟨x, q, s, e, _, _, hq0, hq1⟩ := pick_ev l hl p h0 (by omega) sd 5 (by omega)
    obtain ⟨y, q2, s2, e2, _, _, hq2, hq3⟩ := pick_ev l hl q (by omega) (by omega) s 5 (by omega)
    have hsz : (strOfNums [(wrap64 (97 + x)) % 256, (wrap64 (97 + y)) % 256]).size = 2 := rfl
    obtain ⟨r, hr, h2, h3, h4⟩ := rec_l0 l hl a b c hc n (m + 1) (d ++ strOfNums [(wrap64 (97 + x)) % 256, (wrap64 (97 + y)) % 256]) q2 s2 (by omega) (by rw [ByteArray.size_append, hsz]; omega) (by omega) (by omega)
    refine ⟨r, Ev.step (fun k => ?_) hr, h2, by omega, by omega⟩
    have h5 : d.size + 2 ≤ 9223372036854775807 := by omega
    rw [spec_l1Cur_record.l0, if_pos (by omega), e, Option.bind_some, e2, Option.bind_some, Option.bind_some, hsz, if_pos h5, wnat (by omega)]
theorem record_ev (l : List Int) (hl : ∀ x ∈ l, 0 ≤ x ∧ x ≤ 255) (p sd : Int) (h0 : 0 ≤ p) (h1 : p ≤ 4611686018427360000) : ∃ r, Ev (fun k => spec_l1Cur_record.f k l p sd) r ∧ r.2.2.2.1.size ≤ 9 ∧ p ≤ r.2.2.2.2.1 ∧ r.2.2.2.2.1 ≤ p + 30 := by
  obtain ⟨x, q, s, e, hx, hq0, hq1⟩ := among_ev l hl p h0 (by omega) sd [1, 1, 1, 2, 3] (by decide)
  obtain ⟨y, q2, s2, e2, _, _, hq2, hq3⟩ := pick_ev l hl q (by omega) (by omega) s 13 (by omega)
  obtain ⟨z, q3, s3, e3, hz0, hz1, hq4, hq5⟩ := pick_ev l hl q2 (by omega) (by omega) s2 4 (by omega)
  have hw : wrap64 (1 + z) = ((1 + z.toNat : Nat) : Int) := by rw [w64 (by omega) (by omega)]; omega
  unfold spec_l1Cur_record.f
  simp only [e, e2, e3, Option.bind_some, hw]
  by_cases c1 : x = 1
  · obtain ⟨r, hr, h2, h3, h4⟩ := rec_l0 l hl x y (1 + z.toNat) (by omega) (1 + z.toNat) 0 ⟨#[]⟩ q3 s3 (by omega) (Nat.le_refl _) (by omega) (by omega)
    simp only [if_pos c1]
    exact ⟨r, hr, h2, by omega, by omega⟩
  · simp only [if_neg c1]
    by_cases c3 : x = 3
    · obtain ⟨r, hr, h2, h3, h4⟩ := rec_j1 l hl q3 s3 x y 0 ⟨#[]⟩ (by omega) (by omega) (by decide)
      simp only [if_pos c3]
      exact ⟨r, hr, by have h5 : (⟨#[]⟩ : ByteArray).size = 0 := rfl; omega, by omega, by omega⟩
    · obtain ⟨r, hr, h2, h3, h4⟩ := rec_j1 l hl q3 s3 x y ((1 + z.toNat : Nat) : Int) ⟨#[]⟩ (by omega) (by omega) (by decide)
      simp only [if_neg c3]
      exact ⟨r, hr, by have h5 : (⟨#[]⟩ : ByteArray).size = 0 := rfl; omega, by omega, by omega⟩
theorem records_l0 (l : List Int) (hl : ∀ x ∈ l, 0 ≤ x ∧ x ≤ 255) : ∀ (n : Nat) (acc : List Q) (p sd : Int), acc.length + n ≤ 1000 → 0 ≤ p → p + 30 * n ≤ 4611686018427350000 →
    ∃ r, Ev (fun k => spec_l1Cur_records.l0 k acc (n : Int) l p sd) r ∧ r.1.length ≤ acc.length + n ∧ p ≤ r.2.1 ∧ r.2.1 ≤ p + 30 * n
  | 0, acc, p, sd, hn, h0, h1 => by
    refine ⟨(acc, p, sd), Ev.stepc (fun k => ?_), by show acc.length ≤ _; omega, by show p ≤ p; omega, by show p ≤ _; omega⟩
    rw [spec_l1Cur_records.l0, if_neg (by omega)]
  | n + 1, acc, p, sd, hn, h0, h1 => by
    obtain ⟨x, hx, h2, h3, h4⟩ := record_ev l hl p sd h0 (by omega)
    obtain ⟨r, hr, h5, h6, h7⟩ := records_l0 l hl n (acc ++ [(⟨x.1, x.2.1, x.2.2.1, x.2.2.2.1⟩ : Q)]) x.2.2.2.2.1 x.2.2.2.2.2 (by rw [List.length_append]; show acc.length + 1 + n ≤ _; omega) (by omega) (by omega)
    rw [List.length_append] at h5
    have h5 : r.1.length ≤ acc.length + 1 + n := h5
    have ew : wrap64 (((n + 1 : Nat) : Int) - 1) = (n : Int) := by rw [w64 (by omega) (by omega)]; omega
    have c1 : ((n + 1 : Nat) : Int) > 0 := by omega
    have c2 : acc.length < 3518437208883 := by omega
    have is : ∀ k, spec_l1Cur_records.l0 (k + 1) acc ((n + 1 : Nat) : Int) l p sd = (spec_l1Cur_record.f k l p sd).bind fun bt268 => (if acc.length < 3518437208883 then (spec_l1Cur_records.l0 k (acc ++ [(⟨bt268.1, bt268.2.1, bt268.2.2.1, bt268.2.2.2.1⟩ : Q)]) (n : Int) l bt268.2.2.2.2.1 bt268.2.2.2.2.2) else (none)) := fun k => by
      rw [spec_l1Cur_records.l0, if_pos c1, ew]
    refine ⟨r, Ev.step is (Ev.bind hx ?_), by omega, by omega, by omega⟩
    simp only [if_pos c2]
    exact hr
theorem records_ev (l : List Int) (hl : ∀ x ∈ l, 0 ≤ x ∧ x ≤ 255) (p sd : Int) (h0 : 0 ≤ p) (h1 : p ≤ 4611686018427300000) (m : Int) (hm0 : 0 ≤ m) (hm1 : m ≤ 40) : ∃ r, Ev (fun k => spec_l1Cur_records.f k l p sd m) r ∧ r.1.length ≤ 40 ∧ p ≤ r.2.1 ∧ r.2.1 ≤ p + 1300 := by
  have ew : wrap64 (m + 1) = m + 1 := w64 (by omega) (by omega)
  obtain ⟨x, q, s, e, hx0, hx1, hq0, hq1⟩ := pick_ev l hl p h0 (by omega) sd (m + 1) (by omega)
  obtain ⟨n, rfl⟩ := Int.eq_ofNat_of_zero_le hx0
  obtain ⟨r, hr, h5, h6, h7⟩ := records_l0 l hl n [] q s (by rw [List.length_nil]; omega) (by omega) (by omega)
  rw [List.length_nil] at h5
  unfold spec_l1Cur_records.f
  simp only [ew, e, Option.bind_some]
  exact ⟨r, hr, by omega, by omega, by omega⟩
theorem drawSegmentText_ev (l : List Int) (hl : ∀ x ∈ l, 0 ≤ x ∧ x ≤ 255) : ∃ r, Ev (fun k => spec_DrawSegmentText.f k l) r ∧ r.length ≤ 40 := by
  obtain ⟨x, q, s, e, hx, hq0, hq1⟩ := among_ev l hl 0 (by omega) (by omega) 0 spec_DrawSegmentText.a (by decide)
  have h40 : 0 ≤ x ∧ x ≤ 40 := by
    simp only [spec_DrawSegmentText.a, List.mem_cons, List.not_mem_nil, or_false] at hx
    omega
  obtain ⟨r, hr, h5, _⟩ := records_ev l hl q s (by omega) (by omega) x h40.1 h40.2
  unfold spec_DrawSegmentText.f
  simp only [e, Option.bind_some]
  exact ⟨r.1, Ev.bind hr (Ev.now _), h5⟩
/-- the text of records, of the program and of the reference -/
theorem segText_ev (L : List Q) (hl3 : L.length ≤ 1048576) : ∃ (s : ByteArray) (b : Bool), Ev (fun k => spec_SegmentText.f k L) (s, b) ∧ Ev (fun k => impl_SegmentText.f k L) (s, b) ∧ s.size ≤ 300 ∧ (b = true → L.all goodR = true ∧ s = segV ⟨#[]⟩ L) := by
  unfold spec_SegmentText.f impl_SegmentText.f
  simp only [impl_goods, Option.bind_some]
  have g := spec_goods L hl3
  cases hg : L.all goodR with
  | false =>
    rw [hg] at g
    refine ⟨⟨#[]⟩, false, Ev.bind g (by simpa using Ev.now _), ?_, by decide, fun h => Bool.noConfusion h⟩
    by_cases c : (L.length : Int) > 300
    · simp only [if_pos c]; exact Ev.now _
    · simp only [if_neg c]; simpa using Ev.now _
  | true =>
    rw [hg] at g
    have hs := segV_size L ⟨#[]⟩ hg
    rw [show (⟨#[]⟩ : ByteArray).size = 0 from rfl] at hs
    by_cases c3 : ((segV ⟨#[]⟩ L).size : Int) > 300
    · refine ⟨⟨#[]⟩, false, Ev.bind g (by simp only [if_true]; exact Ev.bind (spec_seg L hl3 hg) (by simp only [if_pos c3]; exact Ev.now _)), ?_, by decide, fun h => Bool.noConfusion h⟩
      by_cases c : (L.length : Int) > 300
      · simp only [if_pos c]; exact Ev.now _
      · simp only [if_neg c, if_true]; exact Ev.bind (impl_seg L hl3 hg) (by simp only [if_pos c3]; exact Ev.now _)
    · refine ⟨segV ⟨#[]⟩ L, true, Ev.bind g (by simp only [if_true]; exact Ev.bind (spec_seg L hl3 hg) (by simp only [if_neg c3]; exact Ev.now _)), ?_, by omega, fun _ => ⟨rfl, rfl⟩⟩
      have c : ¬ (L.length : Int) > 300 := by omega
      simp only [if_neg c, if_true]; exact Ev.bind (impl_seg L hl3 hg) (by simp only [if_neg c3]; exact Ev.now _)
set_option maxHeartbeats 1600000 in
/-- the loop that spoils a text -/
theorem spoilt_l0 (l : List Int) (hl : ∀ x ∈ l, 0 ≤ x ∧ x ≤ 255) (W : ByteArray) (hW : 1 ≤ W.size) (hW2 : W.size ≤ 100) : ∀ (n : Nat) (t : ByteArray) (p sd : Int), t.size + n ≤ 100000 → 0 ≤ p → p + 6 * n ≤ 4611686018427350000 →
    ∃ r, Ev (fun k => spec_l1Cur_spoilt.l0 k t W (n : Int) l p sd) r ∧ r.1.size ≤ t.size + n ∧ p ≤ r.2.1 ∧ r.2.1 ≤ p + 6 * n
  | 0, t, p, sd, hn, h0, h1 => by
    refine ⟨(t, p, sd), Ev.step (f := fun k => spec_l1Cur_spoilt.j1 k t W ((0 : Nat) : Int) false l p sd) (fun k => ?_) (Ev.stepc (fun k => ?_)), by show t.size ≤ _; omega, by show p ≤ p; omega, by show p ≤ _; omega⟩
    · rw [spec_l1Cur_spoilt.l0, if_neg (by omega)]
    · rw [spec_l1Cur_spoilt.j1, if_neg (by decide)]
  | n + 1, t, p, sd, hn, h0, h1 => by
    have c1 : ((n + 1 : Nat) : Int) > 0 := by omega
    have i0 : ∀ k, spec_l1Cur_spoilt.l0 (k + 1) t W ((n + 1 : Nat) : Int) l p sd = spec_l1Cur_spoilt.j1 k t W ((n + 1 : Nat) : Int) (decide ((t.size : Int) > 0)) l p sd := fun k => by rw [spec_l1Cur_spoilt.l0, if_pos c1]
    by_cases ht : (t.size : Int) > 0
    · obtain ⟨i, q, s, e, hi0, hi1, hq0, hq1⟩ := pick_ev l hl p h0 (by omega) sd (t.size : Int) (by omega)
      obtain ⟨y, q2, s2, e2, hy0, hy1, hq2, hq3⟩ := pick_ev l hl q (by omega) (by omega) s (W.size : Int) (by omega)
      obtain ⟨z, q3, s3, e3, hz0, hz1, hq4, hq5⟩ := pick_ev l hl q2 (by omega) (by omega) s2 3 (by omega)
      obtain ⟨m, hmi⟩ : ∃ m : Nat, i = (m : Int) := ⟨i.toNat, by omega⟩
      have tn : i.toNat = m := by omega
      have hm : m < t.size := by omega
      have d2 : i ≤ (t.size : Int) := by omega
      have d3 : wrap64 (i + 1) = ((m + 1 : Nat) : Int) := by rw [w64 (by omega) (by omega)]; omega
      have d4 : (0 : Int) ≤ ((m + 1 : Nat) : Int) := by omega
      have d5 : ((m + 1 : Nat) : Int) ≤ (t.size : Int) := by omega
      have ew : wrap64 (((n + 1 : Nat) : Int) - 1) = (n : Int) := by rw [w64 (by omega) (by omega)]; omega
      have s1 : (strOfNums [bt W y]).size = 1 := rfl
      have x1 : (t.extract 0 m).size = m := by rw [ByteArray.size_extract]; omega
      have x2 : (t.extract m t.size).size = t.size - m := by rw [ByteArray.size_extract]; omega
      have x3 : (t.extract (m + 1) t.size).size = t.size - (m + 1) := by rw [ByteArray.size_extract]; omega
      have y1 : (t.extract 0 m).size + (strOfNums [bt W y]).size ≤ 9223372036854775807 := by omega
      have y2 : ((t.extract 0 m) ++ (strOfNums [bt W y])).size + (t.extract m t.size).size ≤ 9223372036854775807 := by rw [ByteArray.size_append]; omega
      have y3 : ((t.extract 0 m) ++ (strOfNums [bt W y])).size + (t.extract (m + 1) t.size).size ≤ 9223372036854775807 := by rw [ByteArray.size_append]; omega
      have y4 : (t.extract 0 m).size + (t.extract (m + 1) t.size).size ≤ 9223372036854775807 := by omega
      have tn2 : (((m + 1 : Nat) : Int)).toNat = m + 1 := Int.toNat_natCast _
      by_cases z0 : z = 0
      · obtain ⟨r, hr, h5, h6, h7⟩ := spoilt_l0 l hl W hW hW2 n (((t.extract 0 m) ++ (strOfNums [bt W y])) ++ (t.extract m t.size)) q3 s3 (by rw [ByteArray.size_append, ByteArray.size_append]; omega) (by omega) (by omega)
        rw [ByteArray.size_append, ByteArray.size_append] at h5
        refine ⟨r, Ev.step i0 (Ev.step (fun k => ?_) hr), by omega, by omega, by omega⟩
        rw [spec_l1Cur_spoilt.j1, if_pos (decide_eq_true ht), e, Option.bind_some, e2, Option.bind_some, if_pos hy0, if_pos hy1, Option.bind_some, e3, Option.bind_some, if_pos z0, if_pos hi0, if_pos d2]
        simp only [tn]
        rw [if_pos y1, if_pos y2, ew]
      · by_cases z1 : z = 1
        · obtain ⟨r, hr, h5, h6, h7⟩ := spoilt_l0 l hl W hW hW2 n (((t.extract 0 m) ++ (strOfNums [bt W y])) ++ (t.extract (m + 1) t.size)) q3 s3 (by rw [ByteArray.size_append, ByteArray.size_append]; omega) (by omega) (by omega)
          rw [ByteArray.size_append, ByteArray.size_append] at h5
          refine ⟨r, Ev.step i0 (Ev.step (fun k => ?_) hr), by omega, by omega, by omega⟩
          rw [spec_l1Cur_spoilt.j1, if_pos (decide_eq_true ht), e, Option.bind_some, e2, Option.bind_some, if_pos hy0, if_pos hy1, Option.bind_some, e3, Option.bind_some, if_neg z0, if_pos z1, if_pos hi0, if_pos d2]
          simp only [tn, d3, tn2]
          rw [if_pos y1, if_pos d4, if_pos d5, if_pos y3, ew]
        · obtain ⟨r, hr, h5, h6, h7⟩ := spoilt_l0 l hl W hW hW2 n ((t.extract 0 m) ++ (t.extract (m + 1) t.size)) q3 s3 (by rw [ByteArray.size_append]; omega) (by omega) (by omega)
          rw [ByteArray.size_append] at h5
          refine ⟨r, Ev.step i0 (Ev.step (fun k => ?_) hr), by omega, by omega, by omega⟩
          rw [spec_l1Cur_spoilt.j1, if_pos (decide_eq_true ht), e, Option.bind_some, e2, Option.bind_some, if_pos hy0, if_pos hy1, Option.bind_some, e3, Option.bind_some, if_neg z0, if_neg z1, if_pos hi0, if_pos d2]
          simp only [tn, d3, tn2]
          rw [if_pos d4, if_pos d5, if_pos y4, ew]
    · refine ⟨(t, p, sd), Ev.step i0 (Ev.stepc (fun k => ?_)), by show t.size ≤ _; omega, by show p ≤ p; omega, by show p ≤ _; omega⟩
      rw [spec_l1Cur_spoilt.j1, if_neg (by rw [decide_eq_false ht]; decide)]
theorem segment_ev (l : List Int) (hl : ∀ x ∈ l, 0 ≤ x ∧ x ≤ 255) : ∃ r, Ev (fun k => spec_l1Cur_segment.f k l 0 0) r ∧ r.1.size ≤ 302 ∧ 0 ≤ r.2.1 ∧ r.2.1 ≤ 10000 := by
  obtain ⟨R, hR, h2, h3, h4⟩ := records_ev l hl 0 0 (by omega) (by omega) 8 (by omega) (by omega)
  obtain ⟨s, b, hs, _, h5, _⟩ := segText_ev R.1 (by omega)
  obtain ⟨x, q, sd, e, hq0, hq1⟩ := one_ev l hl R.2.1 (by omega) (by omega) R.2.2 3 (by omega)
  unfold spec_l1Cur_segment.f
  cases x with
  | false =>
    refine ⟨(s, q, sd), Ev.bind hR (Ev.bind hs ?_), by show s.size ≤ _; omega, by show 0 ≤ q; omega, by show q ≤ _; omega⟩
    simp only [e, Option.bind_some, Bool.false_eq_true, if_false]
    exact Ev.now _
  | true =>
    obtain ⟨y, q2, s2, e2, hy0, hy1, hq2, hq3⟩ := pick_ev l hl q (by omega) (by omega) sd 3 (by omega)
    obtain ⟨n, rfl⟩ := Int.eq_ofNat_of_zero_le hy0
    obtain ⟨r, hr, h6, h7, h8⟩ := spoilt_l0 l hl (⟨#[0, 5, 1, 97, 98]⟩ : ByteArray) (by decide) (by decide) n s q2 s2 (by omega) (by omega) (by omega)
    have hr2 : Ev (fun k => spec_l1Cur_spoilt.f k l q sd s (⟨#[0, 5, 1, 97, 98]⟩ : ByteArray)) r := by
      unfold spec_l1Cur_spoilt.f
      simp only [e2, Option.bind_some]
      exact hr
    refine ⟨(r.1, r.2.1, r.2.2), Ev.bind hR (Ev.bind hs ?_), by show r.1.size ≤ _; omega, by show 0 ≤ r.2.1; omega, by show r.2.1 ≤ _; omega⟩
    simp only [e, Option.bind_some, if_true]
    exact Ev.bind hr2 (Ev.now _)
theorem drawReadSegment_ev (l : List Int) (hl : ∀ x ∈ l, 0 ≤ x ∧ x ≤ 255) : ∃ s, Ev (fun k => spec_DrawReadSegment.f k l) s ∧ s.size ≤ 302 := by
  obtain ⟨r, hr, h1, _⟩ := segment_ev l hl
  unfold spec_DrawReadSegment.f
  exact ⟨r.1, Ev.bind hr (Ev.now _), h1⟩
theorem drawTornSegment_ev (l : List Int) (hl : ∀ x ∈ l, 0 ≤ x ∧ x ≤ 255) : ∃ s, Ev (fun k => spec_DrawTornSegment.f k l) s ∧ s.1.size ≤ 302 := by
  obtain ⟨r, hr, h1, h2, h3⟩ := segment_ev l hl
  have ew : wrap64 ((r.1.size : Int) + 2) = (r.1.size : Int) + 2 := w64 (by omega) (by omega)
  obtain ⟨x, q, s, e, _, _, hq0, hq1⟩ := pick_ev l hl r.2.1 (by omega) (by omega) r.2.2 ((r.1.size : Int) + 2) (by omega)
  obtain ⟨y, q2, s2, e2, _, _, hq2, hq3⟩ := pick_ev l hl q (by omega) (by omega) s 9 (by omega)
  unfold spec_DrawTornSegment.f
  refine ⟨(r.1, wrap64 (x - wrap64 (Int.tdiv y 8))), Ev.bind hr ?_, h1⟩
  simp only [ew, e, e2, Option.bind_some]
  exact Ev.now _
theorem drawReadRecord_ev (l : List Int) (hl : ∀ x ∈ l, 0 ≤ x ∧ x ≤ 255) : ∃ s, Ev (fun k => spec_DrawReadRecord.f k l) s ∧ s.1.size ≤ 302 := by
  obtain ⟨r, hr, h1, h2, h3⟩ := segment_ev l hl
  have ew : wrap64 ((r.1.size : Int) + 2) = (r.1.size : Int) + 2 := w64 (by omega) (by omega)
  obtain ⟨x, q, s, e, _, _, hq0, hq1⟩ := pick_ev l hl r.2.1 (by omega) (by omega) r.2.2 ((r.1.size : Int) + 2) (by omega)
  obtain ⟨y, q2, s2, e2, _, hq2, hq3⟩ := among_ev l hl q (by omega) (by omega) s [0, 0, 0, -1, x] (by simp)
  unfold spec_DrawReadRecord.f
  refine ⟨(r.1, y), Ev.bind hr ?_, h1⟩
  simp only [ew, e, e2, Option.bind_some]
  exact Ev.now _

end Go.Proofs.Ytjpeedbabjaidaa.Pure
