/- Plain lemmas on what the printed functions answer: numbers and lists alone. -/
import Derived.Test.YtmglhpajnhdafaaPQx0
import Derived.Test.YtmglhpajnhdafaaPQx1
import Derived.Test.YtmglhpajnhdafaaPQx2
import Derived.Test.YtmglhpajnhdafaaPQx3
import Derived.Test.YtmglhpajnhdafaaNums
import Derived.Test.YtmglhpajnhdafaaSteps
import Derived.Laws.BitsLemmas
namespace Go.Proofs.Ytmglhpajnhdafaa.Pure
open Go.RowKit Go.Proofs.Ytmglhpajnhdafaa.PQ Go.Proofs.YtmglhpajnhdafaaW.PrintWords Go.Proofs.YtmglhpajnhdafaaW.PrintLast
set_option linter.unusedVariables false
set_option linter.unusedSimpArgs false

abbrev PK := S32
/-- packets without texts, their masks small -/
def Okp (l : List PK) : Prop := ∀ z ∈ l, z.f1 = (⟨#[]⟩ : ByteArray) ∧ 0 ≤ z.f0 ∧ z.f0 < 1024
theorem wraps63' (n : Int) (h0 : 0 ≤ n) (h1 : n < 2 ^ 63) : IntKind.i64.wrap n = n := by
  rw [show (2 : Int) ^ 63 = 9223372036854775808 by decide] at h1
  rw [IntKind.wrap_i64]
  omega
theorem xor_nat (a b : Nat) (ha : a < 1024) (hb : b < 1024) : Go.bits .xor .i64 (a : Int) (b : Int) = ((a ^^^ b : Nat) : Int) := by
  have hx : a ^^^ b < 2 ^ 10 := Nat.xor_lt_two_pow (by omega) (by omega)
  have h1 : (BitVec.ofInt 64 (a : Int)).toNat = a := by
    rw [BitVec.ofInt_natCast, BitVec.toNat_ofNat]; exact Nat.mod_eq_of_lt (by omega)
  have h2 : (BitVec.ofInt 64 (b : Int)).toNat = b := by
    rw [BitVec.ofInt_natCast, BitVec.toNat_ofNat]; exact Nat.mod_eq_of_lt (by omega)
  show IntKind.i64.wrap ((BitVec.ofInt 64 (a : Int) ^^^ BitVec.ofInt 64 (b : Int)).toNat : Int) = _
  rw [BitVec.toNat_xor, h1, h2, IntKind.wrap_i64]
  omega
theorem xor_small (a b : Int) (ha : 0 ≤ a ∧ a < 1024) (hb : 0 ≤ b ∧ b < 1024) : 0 ≤ Go.bits .xor .i64 a b ∧ Go.bits .xor .i64 a b < 1024 := by
  obtain ⟨x, rfl⟩ := Int.eq_ofNat_of_zero_le ha.1
  obtain ⟨y, rfl⟩ := Int.eq_ofNat_of_zero_le hb.1
  have hx : x ^^^ y < 2 ^ 10 := Nat.xor_lt_two_pow (by omega) (by omega)
  rw [xor_nat x y (by omega) (by omega)]
  omega
theorem bit_two (n : Nat) (z : PK) (h0 : 0 ≤ z.f0) (h1 : z.f0 < 1024) : bitV (n : Int) z = 0 ∨ bitV (n : Int) z = 1 := by
  unfold bitV
  have hs : shr .i64 z.f0 (n : Int) = z.f0 / 2 ^ min ((n : Int)).toNat 64 := rfl
  have hp : (0 : Int) < 2 ^ min ((n : Int)).toNat 64 := Int.pow_pos (by decide)
  have h2 : 0 ≤ z.f0 / 2 ^ min ((n : Int)).toNat 64 := Int.ediv_nonneg h0 (Int.le_of_lt hp)
  have h3 : z.f0 / 2 ^ min ((n : Int)).toNat 64 ≤ z.f0 := Int.ediv_le_self _ h0
  rw [hs]
  generalize z.f0 / 2 ^ min ((n : Int)).toNat 64 = y at h2 h3
  have h := bits_mask .i64 63 (by decide) wraps63' 1 (by decide) y h2 (by rw [show (2 : Int) ^ 63 = 9223372036854775808 by decide]; omega)
  rw [show ((2 : Int) ^ 1 - 1) = 1 by decide] at h
  rw [h]
  omega
theorem has_eq (n : Nat) (z : PK) : impl_has.f z.f0 (n : Int) = some (bitV (n : Int) z == 1) := by
  unfold impl_has.f bitV
  rw [if_pos (by omega)]
theorem at_pos (k : Int) : ∀ (l : List PK) (i : Nat) (a : Int), 0 ≤ a → atL k l i a = a
  | [], _, _, _ => rfl
  | z :: l, i, a, h => by
    rw [atL, if_neg (by omega)]
    exact at_pos k l (i + 1) a h
theorem idx_at (n : Nat) : ∀ (l : List PK) (i : Nat), idxO (fun z : PK => impl_has.f z.f0 (n : Int)) l i = some (atL (n : Int) l i (-1))
  | [], _ => rfl
  | z :: l, i => by
    rw [idxO, has_eq, Option.bind_some, atL, if_pos (show (-1 : Int) < 0 by decide)]
    by_cases c : bitV (n : Int) z = 1
    · rw [if_pos (beq_iff_eq.2 c), if_pos c, at_pos _ _ _ _ (by omega)]
    · rw [if_neg (by simpa using c), if_neg c]
      exact idx_at n l (i + 1)
theorem u64k (n : Nat) (h : n ≤ 1000) : IntKind.u64.wrap (n : Int) = (n : Int) := by
  simp only [IntKind.wrap, IntKind.bits, IntKind.signed]
  simp
  omega
theorem xor_empty : impl_unlikeText.f (⟨#[]⟩ : ByteArray) (⟨#[]⟩ : ByteArray) = some (⟨#[]⟩ : ByteArray) ∧ spec_l10Xor.f (⟨#[]⟩ : ByteArray) (⟨#[]⟩ : ByteArray) = some (⟨#[]⟩ : ByteArray) := ⟨rfl, rfl⟩
theorem less_eq (n : Nat) (hn : n ≤ 1000) (x z : PK) (hx : x.f1 = (⟨#[]⟩ : ByteArray) ∧ 0 ≤ x.f0 ∧ x.f0 < 1024) (hz : z.f1 = (⟨#[]⟩ : ByteArray) ∧ 0 ≤ z.f0 ∧ z.f0 < 1024) : ∃ y : PK, lessO x (n : Int) z = some y ∧ lessS x (n : Int) z = some y ∧ y.f1 = (⟨#[]⟩ : ByteArray) ∧ 0 ≤ y.f0 ∧ y.f0 < 1024 := by
  unfold lessO lessS spec_l10Less.f
  rw [has_eq, Option.bind_some, u64k n hn, if_pos (show (0 : Int) ≤ (n : Int) by omega), hx.1, hz.1, xor_empty.1, xor_empty.2]
  rcases bit_two n z hz.2.1 hz.2.2 with c | c
  · have c2 : Go.bits .and .i64 (shr .i64 z.f0 (n : Int)) 1 = 0 := c
    refine ⟨z, by rw [if_neg (by rw [c]; decide)], ?_, hz⟩
    rw [if_pos c2, Option.bind_some]
    show some (⟨z.f0, (⟨#[]⟩ : ByteArray)⟩ : PK) = some z
    rw [← hz.1]
  · have c2 : ¬ Go.bits .and .i64 (shr .i64 z.f0 (n : Int)) 1 = 0 := by
      have : Go.bits .and .i64 (shr .i64 z.f0 (n : Int)) 1 = 1 := c
      omega
    have h3 := xor_small z.f0 x.f0 hz.2 hx.2
    refine ⟨⟨Go.bits .xor .i64 z.f0 x.f0, ⟨#[]⟩⟩, by rw [if_pos (by rw [c]; rfl)]; rfl, ?_, rfl, h3.1, h3.2⟩
    rw [if_neg c2]
    rfl
theorem lessAll_eq (n : Nat) (hn : n ≤ 1000) (x : PK) (hx : x.f1 = (⟨#[]⟩ : ByteArray) ∧ 0 ≤ x.f0 ∧ x.f0 < 1024) : ∀ l : List PK, Okp l → ∃ m, lessAll x (n : Int) l = some m ∧ mapOS (lessS x (n : Int)) l = some m ∧ Okp m
  | [], _ => ⟨[], rfl, rfl, fun z hz => by cases hz⟩
  | z :: l, h => by
    obtain ⟨y, h1, h2, h3⟩ := less_eq n hn x z hx (h z (List.mem_cons_self ..))
    obtain ⟨m, h4, h5, h6⟩ := lessAll_eq n hn x hx l (fun q hq => h q (List.mem_cons_of_mem _ hq))
    refine ⟨y :: m, by rw [lessAll, h1, Option.bind_some, h4, Option.bind_some], by rw [mapOS, h2, Option.bind_some, h5, Option.bind_some], fun q hq => ?_⟩
    rcases List.mem_cons.1 hq with e | e
    · subst e; exact h3
    · exact h6 q e
theorem restL_past (x : PK) (k : Int) (a : Nat) : ∀ (l : List PK) (i : Nat), a < i → restL x k (a : Int) l i = mapOS (lessS x k) l
  | [], _, _ => rfl
  | z :: l, i, h => by
    rw [restL, if_neg (by omega), restL_past x k a l (i + 1) (by omega)]
    rfl
theorem restL_eq (x : PK) (k : Int) : ∀ (l : List PK) (a i : Nat), a < l.length → restL x k ((i + a : Nat) : Int) l i = mapOS (lessS x k) (l.eraseIdx a)
  | z :: l, 0, i, _ => by
    rw [restL, if_pos (by omega), List.eraseIdx_cons_zero]
    exact restL_past x k (i + 0) l (i + 1) (by omega)
  | z :: l, a + 1, i, h => by
    have ih := restL_eq x k l a (i + 1) (by simpa using h)
    rw [restL, if_neg (by omega), List.eraseIdx_cons_succ, mapOS, show ((i + (a + 1) : Nat) : Int) = ((i + 1 + a : Nat) : Int) by omega, ih]
theorem red_eq : ∀ (n : Nat) (t l : List PK), n ≤ 1000 → Okp t → Okp l → ∃ T L, redO n t l = some (T, L) ∧ redS n t l = some (T, L) ∧ T.length ≤ t.length + n
  | 0, t, l, _, _, _ => ⟨t, l, rfl, rfl, by omega⟩
  | n + 1, t, l, hn, ht, hl => by
    rw [redO, redS, idx_at, Option.bind_some]
    by_cases c : atL (n : Int) l 0 (-1) < 0
    · rw [if_pos c, if_pos c]
      obtain ⟨T, L, h1, h2, h3⟩ := red_eq n t l (by omega) ht hl
      exact ⟨T, L, h1, h2, by omega⟩
    · rw [if_neg c, if_neg c]
      obtain ⟨_, hr⟩ := atL_range (n : Int) l 0 (-1) (by omega) (by omega)
      generalize atL (n : Int) l 0 (-1) = a at c hr
      obtain ⟨j, rfl⟩ := Int.eq_ofNat_of_zero_le (show 0 ≤ a by omega)
      have hj : j < l.length := by omega
      have er : rd_T32 l (j : Int) = l[j] := by simp [rd_T32, List.getD_eq_getElem?_getD, hj]
      have hx := hl l[j] (List.getElem_mem hj)
      rw [er, Int.toNat_natCast]
      have he : Okp (l.eraseIdx j) := fun q hq => hl q (List.mem_of_mem_eraseIdx hq)
      obtain ⟨t', h1, h2, h3⟩ := lessAll_eq n (by omega) l[j] hx t ht
      obtain ⟨l', h4, h5, h6⟩ := lessAll_eq n (by omega) l[j] hx (l.eraseIdx j) he
      have h7 := restL_eq l[j] (n : Int) l j 0 hj
      rw [Nat.zero_add] at h7
      rw [h7, h1, h2, h4, h5]
      simp only [Option.bind_some]
      have hlen := mapOS_length _ _ _ h2
      obtain ⟨T, L, h8, h9, h10⟩ := red_eq n (t' ++ [l[j]]) l' (by omega) (fun q hq => by
        rcases List.mem_append.1 hq with e | e
        · exact h3 q e
        · obtain rfl := List.mem_singleton.1 e
          exact hx) h6
      rw [List.length_append, List.length_singleton] at h10
      exact ⟨T, L, h8, h9, by omega⟩

end Go.Proofs.Ytmglhpajnhdafaa.Pure
