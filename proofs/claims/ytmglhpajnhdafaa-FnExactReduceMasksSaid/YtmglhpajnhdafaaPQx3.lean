-- Written by a program of this session (wip/xprint.py over the kit's printer), out of the translation; the texts of functions that the printer does not take are this session's own.
import Derived.Test.YtmglhpajnhdafaaPQx0
import Derived.Test.YtmglhpajnhdafaaPQx1
import Derived.Test.YtmglhpajnhdafaaPQx2
namespace Go.Proofs.Ytmglhpajnhdafaa.PQ
open Go.RowKit Go.Proofs.YtmglhpajnhdafaaW.PrintWords Go.Proofs.YtmglhpajnhdafaaW.PrintLast Go.Proofs.YtmglhpajnhdafaaW.PrintMore
attribute [local go_sem] max2_int min2_int max_two min_two max_three min_three max_four min_four   -- for this text's walks alone
set_option linter.unusedVariables false
set_option linter.unusedSimpArgs false

/-! ### idxf:int: our own -/
set_option maxHeartbeats 400000 in
set_option maxRecDepth 100000 in
theorem idxf_3 (p : Int → Option Bool) (g : Nat) (lb : Array Value) (eg : ∀ args w, (callFunc g args).run Try.prog w = .ok (.enter g args) w) (A : Option Addr) (c : Nat) (l : List Int) (r : Int) (w : World)
    (hr : Kd.C (Kd.int .i64) w A l.length l) (hp : PredB Try.prog g lb (fun x : Int => .int .i64 x) p w) (h : idxO p l 0 = some r) :
    Calls Try.prog 71 #[.slice A l.length c, .func (.func g) #[] lb] w fun e w' => e = .returned (.int .i64 r) ∧ Below w.heap.size w w' := by
  have hm := Kd.C_max hr
  have HR := Aside0.mk hr
  have HP := Aside0.mk hp
  have HH := Aside0.mk h
  clear hr hp h
  go_enter Try.func71, Try.ntmps71
  go_wp2
  go_loopg [5, 8] l.length (fun gg _ s8 wr => ∃ j : Nat, j ≤ l.length ∧ l.length - j ≤ gg ∧ s8 = .int .i64 j ∧ Aside0 (Below w.heap.size w wr) ∧ Aside0 (idxO p (l.drop j) j = some r))
  case atStart => exact ⟨0, Nat.zero_le _, by omega, rfl, ⟨Below.refl _ w⟩, HH⟩
  case round =>
    obtain ⟨j, hj, hg, rfl, BW, HI⟩ := hrel
    clear HH
    by_cases hlt : j < l.length
    · have hltz : (j : Int) < (l.length : Int) := by omega
      obtain ⟨ad, e0, hx0⟩ := Kd.at_int HR.out (j : Int) (by omega) hltz
      cases e0
      replace hx0 := (BW.out.cell (World.block_lt_of_cell? w _ hx0)).trans hx0
      simp only [Int.toNat_natCast] at hx0
      have hI := HI.out
      rw [List.drop_eq_getElem_cons hlt] at hI
      have ee : l[j] = rd l (j : Int) := by
        simp [rd, List.getD_eq_getElem?_getD, hlt]
      rw [ee] at hI
      simp only [idxO] at hI
      obtain ⟨b, hb, hI2⟩ := Option.bind_eq_some_iff.1 hI
      have hC : Calls Try.prog g (#[.int .i64 (rd l (j : Int))] ++ lb) wr fun e W' => e = .returned (.bool b) ∧ Below wr.heap.size wr W' := HP.out wr (rd l (j : Int)) b BW.out hb
      have HC := Aside0.mk hC
      have HI2 := Aside0.mk hI2
      clear hI ee hb HI hI2 hC
      go_wp2_with fail
      refine HC.out.mono ?_
      rintro e w' ⟨rfl, hb'⟩
      have HB2 := Aside0.mk (BW.out.trans (hb'.mono BW.out.size))
      clear hb'
      cases b with
      | true =>
        have hI := HI2.out
        rw [if_pos rfl] at hI
        obtain rfl := Option.some.inj hI
        clear hI HI2
        go_wp2
        go_ret
        exact ⟨rfl, HB2.out⟩
      | false =>
        go_wp2
        go_roundg (l.length - (j + 1))
        case measure => omega
        case rel => exact ⟨j + 1, by omega, by omega, by go_num, HB2, ⟨by have hI := HI2.out; rw [if_neg (by decide)] at hI; exact hI⟩⟩
    · have hltz : ¬ (j : Int) < (l.length : Int) := by omega
      obtain rfl : j = l.length := by omega
      go_wp2
      go_ret
      have hI := HI.out
      rw [List.drop_length] at hI
      simp [idxO] at hI
      exact ⟨by rw [← hI]; rfl, BW.out⟩

/-! ### areall:int: our own -/
set_option maxHeartbeats 400000 in
set_option maxRecDepth 100000 in
theorem neg_3 (p : Int → Option Bool) (g : Nat) (lb : Array Value) (eg : ∀ args w, (callFunc g args).run Try.prog w = .ok (.enter g args) w) (B : Nat) (w : World) (hB : B < w.heap.size) (hcell : w.cell? ⟨B, 0, none⟩ = some (.func (.func g) #[] lb))
    (hp : PredB Try.prog g lb (fun x : Int => .int .i64 x) p w) :
    PredB Try.prog 58 #[.pointer (some ⟨B, 0, none⟩)] (fun x : Int => .int .i64 x) (fun x => (p x).map (!·)) w := by
  intro W x b hb h
  obtain ⟨b', hb1, rfl⟩ := Option.map_eq_some_iff.1 h
  have hc : W.cell? ⟨B, 0, none⟩ = some (.func (.func g) #[] lb) := (hb.cell (p := ⟨B, 0, none⟩) hB).trans hcell
  have hne : B < W.heap.size := Nat.lt_of_lt_of_le hB hb.size
  have HP := Aside0.mk (fun W' hb' => hp W' x b' hb' hb1)
  have HB := Aside0.mk hb
  clear h hcell hp hb hb1
  show Calls Try.prog 58 #[.int .i64 x, .pointer (some ⟨B, 0, none⟩)] W _
  go_enter Try.func58, Try.ntmps58
  go_wp2_with fail
  refine (HP.out _ (by repeat (first | exact HB.out | exact HB.out.alloc (HB.out.size) _))).mono ?_
  rintro e w' ⟨rfl, hb'⟩
  have HB2 := Aside0.mk hb'
  clear hb'
  go_wp2
  go_ret
  exact ⟨rfl, by first | exact HB2.out | exact ((Below.refl _ _).alloc (Nat.le_refl _) _).trans (HB2.out.mono (by simp))⟩
set_option maxHeartbeats 400000 in
set_option maxRecDepth 100000 in
theorem areAll_3 (p : Int → Option Bool) (g : Nat) (lb : Array Value) (eg : ∀ args w, (callFunc g args).run Try.prog w = .ok (.enter g args) w) (A : Option Addr) (c : Nat) (l : List Int) (r : Bool) (w : World)
    (hr : Kd.C (Kd.int .i64) w A l.length l) (hp : PredB Try.prog g lb (fun x : Int => .int .i64 x) p w) (h : allO p l = some r) :
    Calls Try.prog 43 #[.slice A l.length c, .func (.func g) #[] lb] w fun e w' => e = .returned (.bool r) ∧ Below w.heap.size w w' := by
  obtain ⟨q, hq, rfl⟩ := idxO_all p l 0 r h
  have HC := Aside0.mk (idxf_3 (fun x => (p x).map (!·)) 58 #[.pointer (some ⟨w.heap.size, 0, none⟩)] (enters_own Try.func58 (by kernel_rfl) rfl) A c l q (w.alloc (.cells #[.func (.func g) #[] lb] 68)) (Kd.C_alloc hr _)
    (neg_3 p g lb eg w.heap.size _ (by simp) (by simp) (PredB.later hp ((Below.refl _ _).alloc (Nat.le_refl _) _))) hq)
  clear hr hp h hq
  go_enter Try.func43, Try.ntmps43
  go_wp2_with fail
  go_in
  go_wp2_with fail
  refine HC.out.mono ?_
  rintro e w' ⟨rfl, hb'⟩
  have HB2 := Aside0.mk hb'
  clear hb' HC
  go_wp2
  go_ret
  exact ⟨rfl, ((Below.refl _ _).alloc (Nat.le_refl _) _).trans (HB2.out.mono (by simp))⟩

/-! ### impl_areMasks: function 28 (our own text) -/
def impl_areMasks.f (a0 : Int) (l1 : List Int) : Option Bool := (impl_isMany.f a0).bind fun b => if b = true then (if (l1.length : Int) ≤ 20 then allO (fun x => impl_isMask.f a0 x) l1 else some false) else some false
theorem impl_areMasks.pred (a0 : Int) (B : Nat) (w : World) (hB : B < w.heap.size) (hc : w.cell? ⟨B, 0, none⟩ = some (.int .i64 a0)) : PredB Try.prog 44 #[.pointer (some ⟨B, 0, none⟩)] (fun x : Int => .int .i64 x) (fun x => impl_isMask.f a0 x) w := by
  intro W x b hb h
  have hc' : W.cell? ⟨B, 0, none⟩ = some (.int .i64 a0) := (hb.cell (p := ⟨B, 0, none⟩) hB).trans hc
  have HC := Aside0.mk (fun W' => impl_isMask.calls a0 x b W' h)
  clear h hb hc
  show Calls Try.prog 44 #[.int .i64 x, .pointer (some ⟨B, 0, none⟩)] W _
  go_enter Try.func44, Try.ntmps44
  go_wp2_with fail
  refine (HC.out _).mono ?_
  rintro e w' ⟨rfl, ⟨nd, rfl⟩⟩
  go_wp2
  go_ret
  exact ⟨rfl, pw_below_drewN (Below.refl _ _) _⟩
set_option maxHeartbeats 800000 in
set_option maxRecDepth 100000 in
theorem impl_areMasks.calls (a0 : Int) (A1 : Option Addr) (c1 : Nat) (l1 : List Int) (r : Bool) (w : World) (hr1 : Kd.C (Kd.int .i64) w A1 l1.length l1) (hc1 : l1.length ≤ c1) (h : impl_areMasks.f a0 l1 = some r) :
    Calls Try.prog 28 #[.int .i64 a0, .slice A1 l1.length c1] w fun e w' => e = .returned (.bool r) ∧ Below w.heap.size w w' := by
  unfold impl_areMasks.f at h
  obtain ⟨b, hb, h⟩ := Option.bind_eq_some_iff.1 h
  have H1 := Aside0.mk (fun W => impl_isMany.calls a0 b W hb)
  have HB0 := Aside0.mk ((Below.refl w.heap.size w).alloc (Nat.le_refl _) (.cells #[.int .i64 a0] 3))
  have HR := Aside0.mk hr1
  clear hb hr1 hc1
  cases b with
  | false =>
    rw [if_neg (by decide)] at h
    obtain rfl := Option.some.inj h
    clear h
    go_enter Try.func28, Try.ntmps28
    go_wp2_with fail
    refine (H1.out _).mono ?_
    rintro e w' ⟨rfl, ⟨nd, rfl⟩⟩
    go_wp2
    go_ret
    exact ⟨rfl, by first | exact HB0.out | exact pw_below_drewN HB0.out _⟩
  | true =>
    rw [if_pos rfl] at h
    by_cases d1 : (l1.length : Int) ≤ 20
    · rw [if_pos d1] at h
      have d1b : decide ((l1.length : Int) ≤ 20) = true := decide_eq_true d1
      have H3 := Aside0.mk (fun W (hW : Below w.heap.size w W) (hB : w.heap.size < W.heap.size) (hc : W.cell? ⟨w.heap.size, 0, none⟩ = some (.int .i64 a0)) => areAll_3 (fun x => impl_isMask.f a0 x) 44 #[.pointer (some ⟨w.heap.size, 0, none⟩)] (enters_own Try.func44 (by kernel_rfl) rfl) A1 c1 l1 r W (Kd.C_below HR.out hW) (impl_areMasks.pred a0 w.heap.size W hB hc) h)
      clear h d1
      go_enter Try.func28, Try.ntmps28
      go_wp2_with fail
      refine (H1.out _).mono ?_
      rintro e w' ⟨rfl, ⟨nd, rfl⟩⟩
      go_wp2_with fail
      refine (H3.out _ (by repeat (first | exact HB0.out | apply pw_below_drewN)) (by simp) (by simp)).mono ?_
      rintro e w2 ⟨rfl, hb'⟩
      have HB2 : Aside0 (Below w.heap.size w w2) := ⟨Below.trans (by repeat (first | exact HB0.out | apply pw_below_drewN)) (hb'.mono (by simp))⟩
      clear hb'
      go_wp2
      go_ret
      exact ⟨rfl, HB2.out⟩
    · rw [if_neg d1] at h
      have d1b : decide ((l1.length : Int) ≤ 20) = false := decide_eq_false d1
      obtain rfl := Option.some.inj h
      clear h d1
      go_enter Try.func28, Try.ntmps28
      go_wp2_with fail
      refine (H1.out _).mono ?_
      rintro e w' ⟨rfl, ⟨nd, rfl⟩⟩
      go_wp2
      go_ret
      exact ⟨rfl, by first | exact HB0.out | exact pw_below_drewN HB0.out _⟩

/-! ### impl_has: function 52 -/
def impl_has.f (a0 : Int) (a1 : Int) : Option (Bool) := if 0 ≤ a1 then (some ((Go.bits .and .i64 (shr .i64 a0 a1) 1) == 1)) else (none)
set_option maxHeartbeats 8000000 in
set_option maxRecDepth 100000 in
theorem impl_has.calls (a0 : Int) (a1 : Int) (r : Bool) (w : World) (h : impl_has.f a0 a1 = some r) :
    Calls Try.prog 52 #[.int .i64 a0, .int .i64 a1] w fun e w' => e = .returned (.bool r) ∧ Drawn0 w w' := by
  have H : (if 0 ≤ a1 then (some ((Go.bits .and .i64 (shr .i64 a0 a1) 1) == 1)) else (none)) = some r := h
  clear h
  by_cases c3 : 0 ≤ a1
  · rw [if_pos c3] at H
    have c3b0 := eq_true c3
    have c3b1 : decide (0 ≤ a1) = true := decide_eq_true c3
    clear c3
    obtain ⟨ji4, hji4⟩ : ∃ j_ : Int, (shr .i64 a0 a1) = j_ := ⟨_, rfl⟩
    replace H : (some ((Go.bits .and .i64 (ji4) 1) == 1)) = some r := by first | (rw [hji4] at H; exact H) | (simp only [hji4] at H ⊢; exact H)
    have hji4_ : (a0 / 2 ^ min a1.toNat 64) = ji4 := hji4
    have hji4z : a1 ≤ 64 → (a0 / 2 ^ a1.toNat) = ji4 := shr_small hji4
    obtain rfl := Option.some.inj H
    go_enter Try.func52, Try.ntmps52
    go_wp2
    go_ret
    exact ⟨by first | rfl | (simp; done) | (simp only [← hji4] <;> (first | rfl | simp)) | (simp [*]; done), by repeat (first | exact Drawn0.refl _ | apply Drawn0.step)⟩
  · rw [if_neg c3] at H
    exact absurd H (by simp)

/-! ### impl_unlikeText: function 53 (our own text) -/
def impl_unlikeText.m (a b : ByteArray) (i : Nat) : List Int := (List.range a.size).map fun (j : Nat) => if j < i then Go.bits .xor .u8 (bt a (j : Int)) (bt b (j : Int)) else bt a (j : Int)
theorem impl_unlikeText.m_length (a b : ByteArray) (i : Nat) : (impl_unlikeText.m a b i).length = a.size := by simp [impl_unlikeText.m]
theorem impl_unlikeText.m_at (a b : ByteArray) (i j : Nat) (h : j < a.size) : (impl_unlikeText.m a b i).getD j 0 = if j < i then Go.bits .xor .u8 (bt a (j : Int)) (bt b (j : Int)) else bt a (j : Int) := by simp [impl_unlikeText.m, List.getD_eq_getElem?_getD, h]
theorem impl_unlikeText.m_zero (a b : ByteArray) : impl_unlikeText.m a b 0 = numsOf a := by simp [impl_unlikeText.m, numsOf]
theorem impl_unlikeText.m_set (a b : ByteArray) (i : Nat) (h : i < a.size) : (impl_unlikeText.m a b i).set i (Go.bits .xor .u8 (bt a (i : Int)) (bt b (i : Int))) = impl_unlikeText.m a b (i + 1) := by
  apply List.ext_getElem (by simp [impl_unlikeText.m])
  intro j h1 h2
  simp only [impl_unlikeText.m, List.getElem_set, List.getElem_map, List.getElem_range]
  by_cases e : i = j
  · subst e
    rw [if_pos rfl, if_pos (by omega)]
  · rw [if_neg e]
    by_cases l : j < i
    · rw [if_pos l, if_pos (by omega)]
    · rw [if_neg l, if_neg (by omega)]
def impl_unlikeText.f (a0 a1 : ByteArray) : Option ByteArray := if a0.size = a1.size then (if a0.size ≤ 1000000 then some (strOfNums (impl_unlikeText.m a0 a1 a0.size)) else none) else none
set_option maxHeartbeats 1600000 in
set_option maxRecDepth 100000 in
theorem impl_unlikeText.calls (a0 a1 : ByteArray) (r1 : ByteArray) (w : World) (h : impl_unlikeText.f a0 a1 = some r1) :
    Calls Try.prog 53 #[.string a0, .string a1] w fun e w' => e = .returned (.string r1) ∧ Below w.heap.size w w' := by
  have HB := Aside0.mk (Below.refl w.heap.size w)
  unfold impl_unlikeText.f at h
  by_cases c1n : a0.size = a1.size
  · rw [if_pos c1n] at h
    by_cases c2 : a0.size ≤ 1000000
    · rw [if_pos c2] at h
      obtain rfl := Option.some.inj h
      have C1 := Aside0.mk c1n
      have C2 := Aside0.mk c2
      obtain ⟨cap, C, hconv, hcap, hrow⟩ := BRow.new w a0
      have HR0 := Aside0.mk hrow
      have HC := Aside0.mk hcap
      clear c1n c2 hrow hcap
      go_enter Try.func53, Try.ntmps53
      go_wp2
      go_loopg [11] a0.size (fun gg v11 wr => ∃ i : Nat, i ≤ a0.size ∧ a0.size - i ≤ gg ∧ v11 = .int .i64 (i : Int) ∧ Aside0 (BRow wr w.heap.size cap (impl_unlikeText.m a0 a1 i)) ∧ Aside0 (Below w.heap.size w wr))
      case atStart => exact ⟨0, Nat.zero_le _, by omega, by first | rfl | simp [goInt], ⟨by rw [impl_unlikeText.m_zero]; exact HR0.out⟩, ⟨below_alloc (below_drew HB.out) _⟩⟩
      case round =>
        clear HB HR0
        obtain ⟨i, hi, him, rfl, HR, HB⟩ := hrel
        by_cases hlt : i < a0.size
        · have d1 : ((i : Int) < (a0.size : Int)) = True := eq_true (by omega)
          have d1b : decide ((i : Int) < (a0.size : Int)) = true := decide_eq_true (by omega)
          have d2 : ((i : Int) < (a1.size : Int)) = True := eq_true (by have := C1.out; omega)
          have d2b : decide ((i : Int) < (a1.size : Int)) = true := decide_eq_true (by have := C1.out; omega)
          have d3 : (0 ≤ (i : Int)) = True := eq_true (by omega)
          have hx : ∀ h : i < a1.size, ((a1[i]'h).toNat : Int) = bt a1 (i : Int) := fun h => bt_at a1 (i : Int) h
          have hc : wr.cell? ⟨w.heap.size, i, none⟩ = some (.int .u8 (bt a0 (i : Int))) := by
            have h2 := BRow.cell HR.out (j := i) (by rw [impl_unlikeText.m_length]; exact hlt)
            rw [impl_unlikeText.m_at a0 a1 i i hlt, if_neg (by omega)] at h2
            exact h2
          have hf : wr.frozen? ⟨w.heap.size, i, none⟩ = false := BRow.frozen HR.out (by rw [impl_unlikeText.m_length]; exact hlt)
          have hw : IntKind.i64.wrap ((i : Int) + 1) = ((i + 1 : Nat) : Int) := by
            have := C2.out
            simp only [IntKind.wrap, IntKind.signed, IntKind.bits]
            simp
            omega
          go_wp2
          go_region
          go_wp2
          go_roundg (a0.size - (i + 1))
          case measure => omega
          case rel =>
            refine ⟨i + 1, by omega, by omega, by first | rfl | exact congrArg (Value.int .i64) hw, ⟨?_⟩, ⟨below_drew (below_set HB.out (Nat.le_refl _))⟩⟩
            rw [← impl_unlikeText.m_set a0 a1 i hlt]
            have h3 := BRow.drew (BRow.set HR.out i (Go.bits .xor .u8 (bt a0 (i : Int)) (bt a1 (i : Int))) (by rw [impl_unlikeText.m_length]; exact hlt))
            first | exact h3 | (rw [← hx (by have := C1.out; omega)] at h3; exact h3)
        · obtain rfl : i = a0.size := by omega
          have d1 : ((a0.size : Int) < (a0.size : Int)) = False := eq_false (by omega)
          have d1b : decide ((a0.size : Int) < (a0.size : Int)) = false := decide_eq_false (by omega)
          have hs := fun (W : World) (hW : BRow W w.heap.size cap (impl_unlikeText.m a0 a1 a0.size)) => (BRow.str hW cap)
          rw [impl_unlikeText.m_length] at hs
          have hs1 := hs wr HR.out
          clear hs
          go_wp2
          go_ret
          exact ⟨rfl, HB.out⟩
    · rw [if_neg c2] at h
      cases h
  · rw [if_neg c1n] at h
    cases h

/-! ### clone:impl.Packet: our own -/
set_option maxHeartbeats 400000 in
set_option maxRecDepth 100000 in
theorem clone_32 (A0 : Option Addr) (c0 : Nat) (l0 : List S32) (w : World) (hr0 : Kd.C k32 w A0 l0.length l0) (hl : l0.length * 24 ≤ 140737488355328) :
    Calls Try.prog 59 #[.slice A0 l0.length c0] w fun e w' => ∃ v0_ : Value, e = .returned (v0_) ∧ Kd.R k32 32 w' w.heap.size (fun _ => True) v0_ l0 ∧ Below w.heap.size w w' := by
  rcases A0 with _ | ad
  · have h0 : l0.length = 0 := by
      rcases Nat.eq_zero_or_pos l0.length with h0 | h0
      · exact h0
      · obtain ⟨ad, h, _⟩ := hr0.2.2 h0
        cases h
    have h1 := List.eq_nil_of_length_eq_zero h0
    subst h1
    have kn := fun (W : World) => Lib.run_eql_slice_nil (P := Try.prog) (w := W) 49 32 none 0 c0 0 0 Try.underlying49
    clear hr0 hl h0
    show Calls Try.prog 59 #[.slice none 0 c0] w _
    go_enter Try.func59, Try.ntmps59
    go_wp2
    go_ret
    exact ⟨.slice none 0 0, rfl, Kd.R_nil k32 32 w w.heap.size (fun _ => True), Below.refl _ _⟩
  · have kn := fun (W : World) => Lib.run_eql_slice_nil (P := Try.prog) (w := W) 49 32 (some ad) l0.length c0 0 0 Try.underlying49
    have HR := Aside0.mk hr0
    have HL := Aside0.mk hl
    clear hr0 hl
    go_enter Try.func59, Try.ntmps59
    go_wp2_with (first | ((with_reducible refine gate_dst (N := 5) rfl ?_); refine Kd.R_lit k32 _ 32 ?hg (N := 5) ?hd (xs := ([] : List S32)) (inner := []) (ok := fun _ => True) (okp := fun _ => True) ?hr ?hp (fun _ hk => hk) trivial (Below.refl _ _) (Nat.le_refl _) (by simp) ?_; (case hd => rfl); (case hg => rfl); (case hr => first | (go_simp; done) | (go_simp; rfl)); (case hp => exact (Reps.none _ _)); intro v5 w5 ho5 hb5 hg5 hnew5; clear hg5 hnew5; have HO5 := Aside0.mk ho5; have HB5 := Aside0.mk hb5; clear ho5 hb5) | ((with_reducible refine gate_builtin (b := .append) (xs := #[.tmp 5, .tmp 6]) rfl ?_); at_builtin; refine Kd.R_append_rows k32 (w0 := w) w.heap.size rfl (.tmp 5) (.tmp 6) 49 32 (.agg #[(.int .i64 0), (.string ⟨#[]⟩)]) 24 rfl Try.underlying49 info32 rfl (by decide) (by omega) v5 [] l0 _ _ _ (fun _ => True) (fun _ => False) rfl rfl ?aO ?aR (fun _ _ h => h) (fun _ h => h.elim) (fun _ _ => trivial) ?aB ?aS ?aL ?_; (case aO => exact HO5.out); (case aR => exact Kd.C_below HR.out HB5.out); (case aB => exact HB5.out); (case aS => exact HB5.out.size); (case aL => have := HL.out; simp; omega); intro v7 w7 ho7 hb7 hg7 hat7; have HO7 := Aside0.mk ho7; have HB7 := Aside0.mk hb7; clear ho7 hb7 hg7 hat7))
    go_ret
    exact ⟨v7, rfl, by simpa using HO7.out, HB7.out⟩

/-! ### idxf:impl.Packet: our own -/
set_option maxHeartbeats 400000 in
set_option maxRecDepth 100000 in
theorem idxf_32 (p : S32 → Option Bool) (g : Nat) (lb : Array Value) (eg : ∀ args w, (callFunc g args).run Try.prog w = .ok (.enter g args) w) (A : Option Addr) (c : Nat) (l : List S32) (r : Int) (w : World)
    (hr : Kd.C k32 w A l.length l) (hp : PredB Try.prog g lb (fun x : S32 => .agg #[.int .i64 x.f0, .string x.f1]) p w) (h : idxO p l 0 = some r) :
    Calls Try.prog 60 #[.slice A l.length c, .func (.func g) #[] lb] w fun e w' => e = .returned (.int .i64 r) ∧ Below w.heap.size w w' := by
  have hm := Kd.C_max hr
  have HR := Aside0.mk hr
  have HP := Aside0.mk hp
  have HH := Aside0.mk h
  clear hr hp h
  go_enter Try.func60, Try.ntmps60
  go_wp2
  go_loopg [5, 8] l.length (fun gg _ s8 wr => ∃ j : Nat, j ≤ l.length ∧ l.length - j ≤ gg ∧ s8 = .int .i64 j ∧ Aside0 (Below w.heap.size w wr) ∧ Aside0 (idxO p (l.drop j) j = some r))
  case atStart => exact ⟨0, Nat.zero_le _, by omega, rfl, ⟨Below.refl _ w⟩, HH⟩
  case round =>
    obtain ⟨j, hj, hg, rfl, BW, HI⟩ := hrel
    clear HH
    by_cases hlt : j < l.length
    · have hltz : (j : Int) < (l.length : Int) := by omega
      obtain ⟨ad, e0, hx0, hx1⟩ := at_T32 HR.out (j : Int) (by omega) hltz
      cases e0
      replace hx0 := (BW.out.cell (World.block_lt_of_cell? w _ hx0)).trans hx0
      replace hx1 := (BW.out.cell (World.block_lt_of_cell? w _ hx1)).trans hx1
      simp only [Int.toNat_natCast] at hx0 hx1
      have hI := HI.out
      rw [List.drop_eq_getElem_cons hlt] at hI
      have ee : l[j] = rd_T32 l (j : Int) := by
        simp [rd_T32, List.getD_eq_getElem?_getD, hlt]
      rw [ee] at hI
      simp only [idxO] at hI
      obtain ⟨b, hb, hI2⟩ := Option.bind_eq_some_iff.1 hI
      have hC : Calls Try.prog g (#[.agg #[.int .i64 ((rd_T32 l (j : Int)).f0), .string ((rd_T32 l (j : Int)).f1)]] ++ lb) wr fun e W' => e = .returned (.bool b) ∧ Below wr.heap.size wr W' := HP.out wr (rd_T32 l (j : Int)) b BW.out hb
      have HC := Aside0.mk hC
      have HI2 := Aside0.mk hI2
      clear hI ee hb HI hI2 hC
      go_wp2_with fail
      refine HC.out.mono ?_
      rintro e w' ⟨rfl, hb'⟩
      have HB2 := Aside0.mk (BW.out.trans (hb'.mono BW.out.size))
      clear hb'
      cases b with
      | true =>
        have hI := HI2.out
        rw [if_pos rfl] at hI
        obtain rfl := Option.some.inj hI
        clear hI HI2
        go_wp2
        go_ret
        exact ⟨rfl, HB2.out⟩
      | false =>
        go_wp2
        go_roundg (l.length - (j + 1))
        case measure => omega
        case rel => exact ⟨j + 1, by omega, by omega, by go_num, HB2, ⟨by have hI := HI2.out; rw [if_neg (by decide)] at hI; exact hI⟩⟩
    · have hltz : ¬ (j : Int) < (l.length : Int) := by omega
      obtain rfl : j = l.length := by omega
      go_wp2
      go_ret
      have hI := HI.out
      rw [List.drop_length] at hI
      simp [idxO] at hI
      exact ⟨by rw [← hI]; rfl, BW.out⟩

/-! ### impl_Packet_59: function 59 (our own text) -/
def impl_Packet_59.f (l0 : List S32) : Option (List S32) := if l0.length * 24 ≤ 140737488355328 then some l0 else none
theorem impl_Packet_59.calls (A0 : Option Addr) (c0 : Nat) (l0 : List S32) (r : List S32) (w : World) (hr0 : Kd.C k32 w A0 l0.length l0) (hc0 : l0.length ≤ c0) (h : impl_Packet_59.f l0 = some r) :
    Calls Try.prog 59 #[.slice A0 l0.length c0] w fun e w' => ∃ v0_ : Value, e = .returned (v0_) ∧ Kd.R k32 32 w' w.heap.size (fun _ => True) v0_ r ∧ Below w.heap.size w w' := by
  unfold impl_Packet_59.f at h
  by_cases hl : l0.length * 24 ≤ 140737488355328
  · rw [if_pos hl] at h
    obtain rfl := Option.some.inj h
    exact clone_32 A0 c0 l0 w hr0 hl
  · rw [if_neg hl] at h
    cases h

-- NOT PRINTED: function 60 (impl_Packet_60)

-- NOT PRINTED: function 62 (impl_Packet_62)

/-! ### pdelete: our own -/
/-- the last element's cells, cleared -/
theorem pclear (W : World) (g m c base : Nat) (ok : Nat → Prop) (xs : List S32) (hm : m + 1 ≤ c) (HO : Kd.R k32 32 W base ok (.slice (some ⟨g, 0, none⟩) m c) xs) (ty : TypeId) (c2 : Nat) :
    ∃ w1, (Builtin.clear_ #[49] ty #[.slice (some ⟨g, m * 2, none⟩) 1 c2]).run Try.prog W = .ok (.tuple #[]) w1 ∧ Kd.R k32 32 w1 base ok (.slice (some ⟨g, 0, none⟩) m c) xs ∧ W.grownBy w1 (some g) := by
  have hz : k32.sz = 2 := rfl
  obtain ⟨hok, inner, hown, hr⟩ := HO
  rcases hown.2 with ⟨hv, _⟩ | ⟨g', cap, cur, e1, hb, hh, hn, hc, hs, ht⟩
  · cases hv
  · injection e1 with ea en ec
    injection ea with ea
    injection ea with ea _ _
    subst ea ec
    rw [hz] at hs
    have hcell : ∀ j, j < 2 → (W.cell? ⟨g, m * 2 + j, none⟩).isSome = true := by
      intro j hj
      rw [blk_cell hh, Array.getElem?_eq_getElem (by omega)]
      rfl
    have hfr : ∀ j, j < 2 → W.frozen? ⟨g, m * 2 + j, none⟩ = false := fun j _ => blk_frozen hh _
    have hst := run_storeCells_cells (P := Try.prog) g (m * 2) [.int .i64 0, .string ⟨#[]⟩] 0 W (by simpa using hcell) (by simpa using hfr) (by intro v hv; simp at hv; rcases hv with rfl | rfl <;> rfl)
    refine ⟨(W.setCell ⟨g, m * 2, none⟩ (.int .i64 0)).setCell ⟨g, m * 2 + 1, none⟩ (.string ⟨#[]⟩), ?_, ?_, ?_⟩
    · have hv : ∀ w, (zeroValue 32).run Try.prog w = .ok (.agg #[.int .i64 0, .string ⟨#[]⟩]) w := by
        intro w
        go_simp
      have hzc : (Builtin.zeroCells (Value.agg #[.int .i64 0, .string ⟨#[]⟩]).cells 1).toList = [.int .i64 0, .string ⟨#[]⟩] := by first | rfl | decide | kernel_rfl | simp [Builtin.zeroCells, Value.cells]
      simp only [Nat.add_zero] at hst
      simp [Builtin.clear_, run_underlying Try.underlying49, hv, hzc, hst]
      rfl
    · exact prow_tail (prow_tail ⟨hok, inner, hown, hr⟩ (m * 2) (Nat.le_refl _) _) (m * 2 + 1) (by omega) _
    · exact grown_two (grown_set W g (m * 2) _) (grown_set _ g (m * 2 + 1) _)
set_option maxHeartbeats 1600000 in
set_option maxRecDepth 100000 in
theorem pdelete (W : World) (g n c i base : Nat) (ok : Nat → Prop) (xs : List S32) (hi : i < n) (HO : Kd.R k32 32 W base ok (.slice (some ⟨g, 0, none⟩) n c) xs) (hbase : base ≤ W.heap.size) :
    Calls Try.prog 62 #[.slice (some ⟨g, 0, none⟩) n c, .int .i64 (i : Int), .int .i64 ((i : Int) + 1)] W fun e w' => e = .returned (.slice (some ⟨g, 0, none⟩) (n - 1) c) ∧ Kd.R k32 32 w' base ok (.slice (some ⟨g, 0, none⟩) (n - 1) c) (xs.eraseIdx i) ∧ W.grownBy w' (some g) := by
  have HR := Aside0.mk HO
  have HI := Aside0.mk hi
  have hmc := (Kd.R_reads' HO).2.1
  have HM := Aside0.mk hmc
  have p1 : (0 ≤ (i : Int)) = True := eq_true (by omega)
  have p2 : ((i : Int) ≤ ((i : Int) + 1)) = True := eq_true (by omega)
  have p3 : (((i : Int) + 1) ≤ (n : Int)) = True := eq_true (by omega)
  have p4 : ((n : Int) ≤ (c : Int)) = True := eq_true (by omega)
  have p5 : ((i : Int) = ((i : Int) + 1)) = False := eq_false (by omega)
  have p5b : ((i : Int) == ((i : Int) + 1)) = false := beq_eq_false_iff_ne.mpr (by omega)
  have p6 : (0 ≤ ((i : Int) + 1)) = True := eq_true (by omega)
  have hA : (if c = i + 1 then some (⟨g, 0, none⟩ : Addr) else some (⟨g, (i + 1) * 2, none⟩ : Addr)) = (if c = i + 1 then some (⟨g, 0, none⟩ : Addr) else (some (⟨g, 0, none⟩ : Addr)).map (·.add ((i + 1) * k32.sz))) := by
    by_cases hc : c = i + 1
    · rw [if_pos hc, if_pos hc]
    · rw [if_neg hc, if_neg hc, show k32.sz = 2 from rfl, Option.map_some, add_plain]
      first | done | (rw [Nat.zero_add]) | rfl
  have HA := Aside0.mk hA
  clear HO hA
  go_enter Try.func62, Try.ntmps62
  go_wp2
  obtain ⟨i0, hi0, hz0⟩ := Option.map_eq_some_iff.1 info32
  have hsz0 : i0.size = 2 := by simp only [Prod.mk.injEq] at hz0; exact hz0.2.1
  have hcut1 := cut_to (P := Try.prog) 49 32 .i64 Try.underlying49 hi0 (some ⟨g, 0, none⟩) n c (i : Int) (by omega) (by have := HI.out; omega) HM.out
  have hcut2 := cut_from (P := Try.prog) 49 32 .i64 Try.underlying49 hi0 2 hsz0 (some ⟨g, 0, none⟩) n c ((i : Int) + 1) (by omega) (by have := HI.out; omega)
  simp only [Int.toNat_natCast] at hcut1
  clear hz0
  go_region_law (refine Kd.R_delete_step k32 (w0 := W) base (by rfl) (.tmp 22) (.tmp 25) 49 32 rfl Try.underlying49 (by kernel_rfl) rfl rfl HA.out rfl (Kd.R_drew HR.out) HI.out (below_drew (Below.refl _ _)) ?aS ?_; (case aS => exact hbase); intro w1 hR1 hB1 hG1; have HR1 := Aside0.mk hR1; have HG1 := Aside0.mk hG1; clear hR1 hB1 hG1)
  obtain ⟨m, hm⟩ : ∃ m, m = n - 1 := ⟨_, rfl⟩
  have hR1 := HR1.out
  rw [← hm] at hR1
  obtain ⟨w2, hcl, hR2, hG2⟩ := pclear w1 g m c base ok _ (by omega) hR1 0 (c - m)
  have HR2 := Aside0.mk hR2
  have HG2 := Aside0.mk hG2
  have p8 : ((m : Int) ≤ (n : Int)) = True := eq_true (by omega)
  have p9 : (0 ≤ (m : Int)) = True := eq_true (by omega)
  have p10 : (c = m) = False := eq_false (by omega)
  have p11 : n - m = 1 := by omega
  clear hR2 hG2 hR1
  rw [← hm]
  have HMM := Aside0.mk hm
  clear hm
  go_wp2
  all_goals go_ret
  all_goals subst_vars
  all_goals refine ⟨by rw [← HMM.out]; rfl, by rw [← HMM.out]; exact HR2.out, ?_⟩
  all_goals exact grown_two (show W.grownBy w1 (some g) from ⟨HG1.out.os, HG1.out.tape, HG1.out.output, HG1.out.size, HG1.out.block⟩) HG2.out

/-! ### preduce: our own -/
theorem reduce_pred (k : Int) (B : Nat) (w : World) (hB : B < w.heap.size) (hc : w.cell? ⟨B, 0, none⟩ = some (.int .i64 k)) :
    PredB Try.prog 61 #[.pointer (some ⟨B, 0, none⟩)] (fun z : S32 => .agg #[.int .i64 z.f0, .string z.f1]) (fun z => impl_has.f z.f0 k) w := by
  intro W x b hb h
  have hc' : W.cell? ⟨B, 0, none⟩ = some (.int .i64 k) := (hb.cell (p := ⟨B, 0, none⟩) hB).trans hc
  have hne : B < W.heap.size := Nat.lt_of_lt_of_le hB hb.size
  have hn2 : B ≠ W.heap.size := by omega
  have HC := Aside0.mk (fun W' => impl_has.calls x.f0 k b W' h)
  clear h hc hb
  show Calls Try.prog 61 #[.agg #[.int .i64 x.f0, .string x.f1], .pointer (some ⟨B, 0, none⟩)] W _
  go_enter Try.func61, Try.ntmps61
  go_wp2_with fail
  refine (HC.out _).mono ?_
  rintro e w' ⟨rfl, ⟨nd, rfl⟩⟩
  go_wp2
  go_ret
  exact ⟨rfl, pw_below_drewN ((Below.refl _ _).alloc (Nat.le_refl _) _) _⟩
def lessO (own : S32) (k : Int) (x : S32) : Option S32 := (impl_has.f x.f0 k).bind fun b => if b = true then (impl_unlikeText.f x.f1 own.f1).bind fun t => some ⟨Go.bits .xor .i64 x.f0 own.f0, t⟩ else some x
def lessAll (own : S32) (k : Int) : List S32 → Option (List S32)
  | [] => some []
  | x :: l => (lessO own k x).bind fun y => (lessAll own k l).bind fun m => some (y :: m)
theorem lessAll_length (own : S32) (k : Int) : ∀ (l m : List S32), lessAll own k l = some m → m.length = l.length
  | [], m, h => by obtain rfl := Option.some.inj h; rfl
  | x :: l, m, h => by
    obtain ⟨y, h1, h⟩ := Option.bind_eq_some_iff.1 h
    obtain ⟨q, h2, h⟩ := Option.bind_eq_some_iff.1 h
    obtain rfl := Option.some.inj h
    rw [List.length_cons, List.length_cons, lessAll_length own k l q h2]
/-- how far a row has been turned: its first j elements -/
def Turned (own : S32) (k : Int) (ys cur : List S32) (j : Nat) : Prop := ∃ m, lessAll own k (cur.drop j) = some m ∧ ys = cur.take j ++ m
theorem Turned.start {own : S32} {k : Int} {xs ys : List S32} (h : lessAll own k xs = some ys) : Turned own k ys xs 0 := ⟨ys, h, rfl⟩
theorem Turned.done {own : S32} {k : Int} {ys cur : List S32} {j : Nat} (h : Turned own k ys cur j) (hj : cur.length ≤ j) : ys = cur := by
  obtain ⟨m, h1, h2⟩ := h
  rw [List.drop_eq_nil_of_le hj] at h1
  obtain rfl := Option.some.inj h1
  rw [h2, List.take_of_length_le hj, List.append_nil]
theorem Turned.next {own : S32} {k : Int} {ys cur : List S32} {j : Nat} (h : Turned own k ys cur j) (hj : j < cur.length) : ∃ y, lessO own k (rd_T32 cur (j : Int)) = some y ∧ Turned own k ys (cur.set j y) (j + 1) := by
  obtain ⟨m, h1, h2⟩ := h
  have er : rd_T32 cur (j : Int) = cur[j] := by simp [rd_T32, List.getD_eq_getElem?_getD, hj]
  rw [List.drop_eq_getElem_cons hj] at h1
  obtain ⟨y, h3, h1⟩ := Option.bind_eq_some_iff.1 h1
  obtain ⟨q, h4, h1⟩ := Option.bind_eq_some_iff.1 h1
  obtain rfl := Option.some.inj h1
  refine ⟨y, by rw [er]; exact h3, q, ?_, ?_⟩
  · rw [List.drop_set_of_lt (by omega)]
    exact h4
  · rw [h2, List.take_succ_eq_append_getElem (by rw [List.length_set]; exact hj), List.take_set_of_le (Nat.le_refl _), List.getElem_set_self]
    simp

/-! ### impl_reduce: function 45 (our own text) -/
def redO : Nat → List S32 → List S32 → Option (List S32 × List S32)
  | 0, t, l => some (t, l)
  | n + 1, t, l => (idxO (fun z : S32 => impl_has.f z.f0 (n : Int)) l 0).bind fun i => if i < 0 then redO n t l else ((lessAll (rd_T32 l i) (n : Int) t).bind fun t' => ((lessAll (rd_T32 l i) (n : Int) (l.eraseIdx i.toNat)).bind fun l' => redO n (t' ++ [rd_T32 l i]) l'))
def impl_reduce.f (a0 : Int) (l0 : List S32) : Option (List S32 × List S32) := if 0 ≤ a0 then (if a0 ≤ 1000 then (if l0.length ≤ 1000 then redO a0.toNat [] l0 else none) else none) else none
theorem idxO_range {α : Type} (p : α → Option Bool) : ∀ (l : List α) (i : Nat) (r : Int), idxO p l i = some r → r = -1 ∨ ((i : Int) ≤ r ∧ r < (i : Int) + l.length)
  | [], i, r, h => .inl (by simpa [idxO] using h.symm)
  | x :: l, i, r, h => by
    simp only [idxO] at h
    obtain ⟨b, hb, h⟩ := Option.bind_eq_some_iff.1 h
    cases b with
    | true =>
      rw [if_pos rfl] at h
      obtain rfl := Option.some.inj h
      exact .inr ⟨Int.le_refl _, by rw [List.length_cons]; omega⟩
    | false =>
      rw [if_neg (by decide)] at h
      rcases idxO_range p l (i + 1) r h with h1 | ⟨h1, h2⟩
      · exact .inl h1
      · exact .inr ⟨by omega, by rw [List.length_cons]; omega⟩
theorem wr1 (n : Nat) (h : n ≤ 1000) : IntKind.i64.wrap (((n + 1 : Nat) : Int) - 1) = (n : Int) := by
  simp only [IntKind.wrap, IntKind.signed, IntKind.bits]
  simp
  omega
set_option maxHeartbeats 40000000 in
set_option maxRecDepth 100000 in
theorem impl_reduce.calls (a0 : Int) (A1 : Option Addr) (c1 : Nat) (l0 : List S32) (r1 r2 : List S32) (w : World) (hr0 : Kd.C k32 w A1 l0.length l0) (hc0 : l0.length ≤ c1) (h : impl_reduce.f a0 l0 = some (r1, r2)) :
    Calls Try.prog 45 #[.int .i64 a0, .slice A1 l0.length c1] w fun e w' => ∃ v0_ v1_ : Value, e = .returned (.tuple #[v0_, v1_]) ∧ Kd.R k32 32 w' w.heap.size (fun _ => True) v0_ r1 ∧ Kd.R k32 32 w' w.heap.size (fun _ => True) v1_ r2 ∧ Below w.heap.size w w' := by
  unfold impl_reduce.f at h
  by_cases d1 : 0 ≤ a0
  · rw [if_pos d1] at h
    by_cases d2 : a0 ≤ 1000
    · rw [if_pos d2] at h
      by_cases d3 : l0.length ≤ 1000
      · rw [if_pos d3] at h
        obtain ⟨n, rfl⟩ := Int.eq_ofNat_of_zero_le d1
        rw [Int.toNat_natCast] at h
        have H0 := Aside0.mk h
        have HC := Aside0.mk (impl_Packet_59.calls A1 c1 l0 l0 w hr0 hc0 (by unfold impl_Packet_59.f; rw [if_pos (by omega)]))
        have D2 := Aside0.mk d2
        have D3 := Aside0.mk d3
        clear h hr0 hc0 d1 d2 d3
        go_enter Try.func45, Try.ntmps45
        go_wp2_with fail
        refine HC.out.mono ?_
        rintro e w1 ⟨v, rfl, ho, hb⟩
        have HO := Aside0.mk ho
        have HB := Aside0.mk hb
        clear ho hb HC
        go_wp2
        have ew : wrap64 ((n : Int) - 1) = (n : Int) - 1 := by
          have := D2.out
          rw [← i64_w]
          simp only [IntKind.wrap, IntKind.signed, IntKind.bits]
          simp
          omega
        rw [ew]
        go_loopg [6, 7, 8] n (fun gg v6 v7 v8 wr => ∃ (told left : List S32) (Bk m : Nat), m ≤ gg ∧ v8 = .pointer (some ⟨Bk, 0, none⟩) ∧ Aside0 (told.length + m ≤ n ∧ left.length ≤ 1000) ∧ Aside0 (redO m told left = some (r1, r2)) ∧ Aside0 (wr.heap[Bk]? = some (.cells #[.int .i64 ((m : Int) - 1)] 3 (0, 0))) ∧ Aside0 (Kd.R k32 32 wr w.heap.size (fun _ => True) v6 told) ∧ Aside0 (Kd.R k32 32 wr w.heap.size (fun _ => True) v7 left) ∧ Aside0 (∀ k, v6.ownBlock = some k → v7.ownBlock ≠ some k) ∧ Aside0 (Below w.heap.size w wr))
        case atStart => exact ⟨[], l0, w1.heap.size, n, Nat.le_refl _, rfl, ⟨by rw [List.length_nil]; exact ⟨by omega, D3.out⟩⟩, H0, ⟨blk_new w1 _⟩, ⟨Kd.R_nil _ _ _ _ _⟩, ⟨Kd.R_alloc HO.out _⟩, ⟨fun k hk => by simp [Value.ownBlock] at hk⟩, ⟨below_alloc HB.out _⟩⟩
        case round =>
          clear HO HB H0 ew
          obtain ⟨told, left, Bk, m, hm, rfl, HT, HA, HK, HO6, HO7, HD, HB⟩ := hrel
          cases m with
          | zero =>
            have H := HA.out
            simp only [redO] at H
            injection H with H
            injection H with e1 e2
            subst e1 e2
            have hx : wr.cell? ⟨Bk, 0, none⟩ = some (.int .i64 (-1)) := (blk_cell HK.out 0).trans rfl
            go_wp2
            go_ret2
            exact ⟨_, _, rfl, HO6.out, HO7.out, HB.out⟩
          | succ m =>
            have H := HA.out
            simp only [redO] at H
            obtain ⟨i, hi, H⟩ := Option.bind_eq_some_iff.1 H
            have hKm : wr.heap[Bk]? = some (.cells #[.int .i64 (m : Int)] 3 (0, 0)) := by
              have q := HK.out
              rw [show (((m + 1 : Nat) : Int) - 1) = (m : Int) by omega] at q
              exact q
            have HKm := Aside0.mk hKm
            have hx : wr.cell? ⟨Bk, 0, none⟩ = some (.int .i64 (m : Int)) := (blk_cell hKm 0).trans rfl
            have hBk : Bk < wr.heap.size := blk_lt hKm
            obtain ⟨A7, c7, e7⟩ := Kd.R_slice HO7.out
            subst e7
            have HI := Aside0.mk (idxf_32 (fun z : S32 => impl_has.f z.f0 (m : Int)) 61 #[.pointer (some ⟨Bk, 0, none⟩)] (enters_own Try.func61 (by kernel_rfl) rfl) A7 c7 left i wr (Kd.R_reads' HO7.out).2.2 (reduce_pred (m : Int) Bk wr hBk hx) hi)
            have p0 : (0 ≤ (m : Int)) = True := eq_true (by omega)
            have HIR := Aside0.mk (idxO_range _ left 0 i hi)
            have HH := Aside0.mk H
            clear H HA HK hKm hi
            go_wp2_with fail
            refine HI.out.mono ?_
            rintro e w2 ⟨rfl, hb2⟩
            have HB2 := Aside0.mk hb2
            have HKm2 := Aside0.mk ((hb2.block Bk hBk).trans HKm.out)
            have HO62 := Aside0.mk (Kd.R_below HO6.out hb2)
            have HO72 := Aside0.mk (Kd.R_below HO7.out hb2)
            have HB3 := Aside0.mk (HB.out.trans (hb2.mono HB.out.size))
            clear HI hx hb2 hBk HKm HO6 HO7 HB
            have hx2 : w2.cell? ⟨Bk, 0, none⟩ = some (.int .i64 (m : Int)) := (blk_cell HKm2.out 0).trans rfl
            have H := HH.out
            by_cases ci : i < 0
            · rw [if_pos ci] at H
              have ci1 := eq_true ci
              have ci2 : decide (i < 0) = true := decide_eq_true ci
              have HH2 := Aside0.mk H
              clear H HH ci
              have ew2 : wrap64 ((m : Int) - 1) = (m : Int) - 1 := by
                have := HT.out
                have := D2.out
                rw [← i64_w]
                simp only [IntKind.wrap, IntKind.signed, IntKind.bits]
                simp
                omega
              go_wp2
              rw [ew2]
              go_roundg m
              case measure => omega
              case rel => exact ⟨told, left, w2.heap.size, m, Nat.le_refl _, rfl, ⟨by have := HT.out; exact ⟨by omega, this.2⟩⟩, HH2, ⟨blk_new w2 _⟩, ⟨Kd.R_alloc HO62.out _⟩, ⟨Kd.R_alloc HO72.out _⟩, HD, ⟨below_alloc HB3.out _⟩⟩
            · rw [if_neg ci] at H
              have ci1 := eq_false ci
              have ci2 : decide (i < 0) = false := decide_eq_false ci
              have hil : i < (left.length : Int) := by rcases HIR.out with h1 | ⟨_, h1⟩ <;> omega
              obtain ⟨j, rfl⟩ := Int.eq_ofNat_of_zero_le (show 0 ≤ i by omega)
              have hjl : j < left.length := by omega
              obtain ⟨g7, c7', e7, gb7, gl7, cl7, hg7⟩ := Kd.R_form HO72.out (by omega)
              injection e7 with ea en ec
              subst ea ec
              clear en
              have gk : Bk ≠ g7 := by
                have q := Kd.R_ne HO72.out HKm2.out (by decide)
                intro e
                exact q (by rw [e]; rfl)
              obtain ⟨x, hxe⟩ : ∃ x, x = rd_T32 left (j : Int) := ⟨_, rfl⟩
              obtain ⟨hc0, hc1, hf0, hf1⟩ := prow_cell HO72.out j hjl
              rw [← hxe] at hc0 hc1 H
              rw [Int.toNat_natCast] at H
              obtain ⟨ts, ht1, H⟩ := Option.bind_eq_some_iff.1 H
              obtain ⟨ls, hl1, H⟩ := Option.bind_eq_some_iff.1 H
              have HH2 := Aside0.mk H
              have HT1 := Aside0.mk ht1
              have HL1 := Aside0.mk hl1
              have GB7 := Aside0.mk gb7
              have GL7 := Aside0.mk gl7
              have GK := Aside0.mk gk
              have HDel := Aside0.mk (fun (W : World) (hR : Kd.R k32 32 W w.heap.size (fun _ => True) (.slice (some ⟨g7, 0, none⟩) left.length c7) left) (hb : w.heap.size ≤ W.heap.size) => pdelete W g7 left.length c7 j w.heap.size (fun _ => True) left hjl hR hb)
              have q1 : (0 ≤ (j : Int)) = True := eq_true (by omega)
              have q2 : ((j : Int) < (left.length : Int)) = True := eq_true hil
              clear HH H ht1 hl1 ci gb7 gl7 gk hg7 cl7 HIR hxe
              have ej : wrap64 ((j : Int) + 1) = (j : Int) + 1 := by
                have := HT.out
                rw [← i64_w]
                simp only [IntKind.wrap, IntKind.signed, IntKind.bits]
                simp
                omega
              go_wp2_with fail
              rw [ej]
              refine (HDel.out _ (Kd.R_alloc HO72.out _) (by have := HB3.out.size; simp; omega)).mono ?_
              rintro e w4 ⟨rfl, hr4, hg4⟩
              have HO74 := Aside0.mk hr4
              have HOwn := Aside0.mk (blk_grown (blk_new w2 (.cells #[.int .i64 x.f0, .string x.f1] 32)) hg4 (fun e => by have := GL7.out; injection e with e; omega))
              have HK4 := Aside0.mk (blk_grown (blk_alloc HKm2.out (.cells #[.int .i64 x.f0, .string x.f1] 32)) hg4 (fun e => GK.out (by injection e)))
              have HO64 := Aside0.mk (prow_keep (Kd.R_alloc HO62.out (.cells #[.int .i64 x.f0, .string x.f1] 32)) (fun k hk => hg4.block k (Kd.R_lt (Kd.R_alloc HO62.out _) k hk) (fun e => HD.out k hk (by injection e with e; subst e; rfl))))
              have HB4 := Aside0.mk (Below.grown (below_alloc HB3.out (.cells #[.int .i64 x.f0, .string x.f1] 32)) hg4 (by have := HB3.out.size; simp; omega) (fun k hk => by injection hk with hk; subst hk; exact GB7.out))
              have HL4 := Aside0.mk hg4.size
              have hBo : w2.heap.size < w4.heap.size := by have := hg4.size; simp at this; omega
              have HBo := Aside0.mk hBo
              have HS6 := Aside0.mk (show ∀ k, u6.ownBlock = some k → k ≠ Bk ∧ k < w2.heap.size from fun k hk => ⟨fun e => Kd.R_ne HO62.out HKm2.out (by decide) (by rw [hk, e]), Kd.R_lt HO62.out k hk⟩)
              clear hr4 hg4 HO62 HO72 HKm2 HB3 HDel hc0 hc1 hf0 hf1 hx2 q1 q2 ej hBo ci1 ci2
              obtain ⟨A6, c6, e6⟩ := Kd.R_slice HO64.out
              subst e6
              have HL1' := Aside0.mk (lessAll_length _ _ _ _ HT1.out)
              have HL2' := Aside0.mk (lessAll_length _ _ _ _ HL1.out)
              have HE4 := Aside0.mk (show left.length - 1 = (left.eraseIdx j).length by rw [List.length_eraseIdx_of_lt hjl])
              generalize hBoE : w2.heap.size = Bo at *
              go_wp2
              go_loopg [41] 2 (fun gg v41 wr => ∃ (q : Nat) (T L : List S32), q ≤ 2 ∧ 2 - q ≤ gg ∧ v41 = .int .i64 (q : Int) ∧ Aside0 ((q = 0 ∧ T = told ∧ L = left.eraseIdx j) ∨ (q = 1 ∧ T = ts ∧ L = left.eraseIdx j) ∨ (q = 2 ∧ T = ts ∧ L = ls)) ∧ Aside0 (Kd.R k32 32 wr w.heap.size (fun _ => True) (.slice A6 told.length c6) T) ∧ Aside0 (Kd.R k32 32 wr w.heap.size (fun _ => True) (.slice (some ⟨g7, 0, none⟩) (left.length - 1) c7) L) ∧ Aside0 (wr.heap[Bo]? = some (.cells #[.int .i64 x.f0, .string x.f1] 32 (0, 0))) ∧ Aside0 (wr.heap[Bk]? = some (.cells #[.int .i64 (m : Int)] 3 (0, 0))) ∧ Aside0 (wr.heap[w4.heap.size]? = some (.cells #[.slice A6 told.length c6, .slice (some ⟨g7, 0, none⟩) (left.length - 1) c7] 49 (0, 0))) ∧ Aside0 (Below w.heap.size w wr))
              case atStart => exact ⟨0, told, _, by omega, by omega, by first | rfl | simp [goInt], ⟨.inl ⟨rfl, rfl, rfl⟩⟩, ⟨Kd.R_alloc HO64.out _⟩, ⟨Kd.R_alloc HO74.out _⟩, ⟨blk_alloc HOwn.out _⟩, ⟨blk_alloc HK4.out _⟩, ⟨blk_new w4 _⟩, ⟨below_alloc HB4.out _⟩⟩
              case round =>
                clear HO64 HO74 HOwn HK4 HB4
                obtain ⟨q, T, L, hq, hqg, rfl, HQ, HO6, HO7, HOwn, HKb, HRw, HB⟩ := hrel
                by_cases hq2 : q < 2
                · obtain ⟨A12, N12, c12, vo, xs1, ys1, xs2, hc12, hxl, hR1, hR2, hD12, hS12, hys, hfin⟩ : ∃ (A12 : Option Addr) (N12 c12 : Nat) (vo : Value) (xs1 ys1 xs2 : List S32), wr.cell? ⟨w4.heap.size, q, none⟩ = some (.slice A12 N12 c12) ∧ xs1.length ≤ 1000 ∧ Kd.R k32 32 wr w.heap.size (fun _ => True) (.slice A12 N12 c12) xs1 ∧ Kd.R k32 32 wr w.heap.size (fun _ => True) vo xs2 ∧ (∀ k, (Value.slice A12 N12 c12).ownBlock = some k → vo.ownBlock ≠ some k) ∧ (∀ k, (Value.slice A12 N12 c12).ownBlock = some k → k ≠ Bk ∧ k < Bo) ∧ lessAll x (m : Int) xs1 = some ys1 ∧ (∀ W' : World, Kd.R k32 32 W' w.heap.size (fun _ => True) (.slice A12 N12 c12) ys1 → Kd.R k32 32 W' w.heap.size (fun _ => True) vo xs2 → ∃ T' L' : List S32, ((q + 1 = 0 ∧ T' = told ∧ L' = left.eraseIdx j) ∨ (q + 1 = 1 ∧ T' = ts ∧ L' = left.eraseIdx j) ∨ (q + 1 = 2 ∧ T' = ts ∧ L' = ls)) ∧ Kd.R k32 32 W' w.heap.size (fun _ => True) (.slice A6 told.length c6) T' ∧ Kd.R k32 32 W' w.heap.size (fun _ => True) (.slice (some ⟨g7, 0, none⟩) (left.length - 1) c7) L') := by
                    rcases HQ.out with ⟨rfl, rfl, rfl⟩ | ⟨rfl, rfl, rfl⟩ | ⟨rfl, _, _⟩
                    · exact ⟨A6, _, c6, _, _, ts, _, (blk_cell HRw.out 0).trans rfl, by have h1 := HT.out; have h2 := D2.out; omega, HO6.out, HO7.out, fun k hk => HD.out k hk, fun k hk => HS6.out k hk, HT1.out, fun W' h1 h2 => ⟨ts, _, .inr (.inl ⟨rfl, rfl, rfl⟩), h1, h2⟩⟩
                    · exact ⟨some ⟨g7, 0, none⟩, _, c7, _, _, ls, _, (blk_cell HRw.out 1).trans rfl, by have h1 := HT.out; have h2 := HE4.out; omega, HO7.out, HO6.out, fun k hk e => HD.out k e (by first | exact hk | (injection hk with hk; subst hk; rfl)), fun k hk => by injection hk with hk; subst hk; exact ⟨fun e => GK.out e.symm, GL7.out⟩, HL1.out, fun W' h1 h2 => ⟨_, ls, .inr (.inr ⟨rfl, rfl, rfl⟩), h2, h1⟩⟩
                    · omega
                  have HR1 := Aside0.mk hR1
                  have HR2 := Aside0.mk hR2
                  have HD12 := Aside0.mk hD12
                  have HS12 := Aside0.mk hS12
                  have HYS := Aside0.mk (Turned.start hys)
                  have HFin := Aside0.mk hfin
                  have hN := (Kd.R_reads' hR1).1
                  have HN := Aside0.mk hN
                  have HSZ := Aside0.mk (show N12 ≤ 2000 by rw [hN]; omega)
                  have d1 : ((q : Int) < 2) = True := eq_true (by omega)
                  have d1b : decide ((q : Int) < 2) = true := decide_eq_true (by omega)
                  have d0 : (0 ≤ (q : Int)) = True := eq_true (by omega)
                  clear hR1 hR2 hD12 hS12 hys hfin hN HO6 HO7
                  go_wp2
                  go_loopg [47] N12 (fun gg v47 wi => ∃ (jj : Nat) (cur : List S32), jj ≤ N12 ∧ N12 - jj ≤ gg ∧ v47 = .int .i64 (jj : Int) ∧ Aside0 (cur.length = N12) ∧ Aside0 (Turned x (m : Int) ys1 cur jj) ∧ Aside0 (Kd.R k32 32 wi w.heap.size (fun _ => True) (.slice A12 N12 c12) cur) ∧ Aside0 (Kd.R k32 32 wi w.heap.size (fun _ => True) vo xs2) ∧ Aside0 (wi.heap[Bo]? = some (.cells #[.int .i64 x.f0, .string x.f1] 32 (0, 0))) ∧ Aside0 (wi.heap[Bk]? = some (.cells #[.int .i64 (m : Int)] 3 (0, 0))) ∧ Aside0 (wi.heap[w4.heap.size]? = some (.cells #[.slice A6 told.length c6, .slice (some ⟨g7, 0, none⟩) (left.length - 1) c7] 49 (0, 0))) ∧ Aside0 (Below w.heap.size w wi))
                  case atStart => exact ⟨0, xs1, by omega, by omega, by first | rfl | simp [goInt], ⟨HN.out.symm⟩, HYS, HR1, HR2, HOwn, HKb, HRw, HB⟩
                  case round =>
                    clear HR1 HR2 HOwn HKb HRw HB HYS hc12
                    obtain ⟨jj, cur, hjj, hjg, rfl, HCL, HTU, HR1, HR2, HOwn, HKb, HRw, HB⟩ := hrel
                    by_cases hj2 : jj < N12
                    · obtain ⟨y, hy, htu⟩ := Turned.next HTU.out (show jj < cur.length by have := HCL.out; omega)
                      obtain ⟨bb, hbb, hy⟩ := Option.bind_eq_some_iff.1 hy
                      obtain ⟨g12, c12', e12, gb12, gl12, _, _⟩ := Kd.R_form HR1.out (by have := HCL.out; omega)
                      injection e12 with ea en ec
                      subst ea ec
                      clear en
                      obtain ⟨z, hze⟩ : ∃ z, z = rd_T32 cur (jj : Int) := ⟨_, rfl⟩
                      obtain ⟨hc0, hc1, hf0, hf1⟩ := prow_cell HR1.out jj hj2
                      rw [← hze] at hc0 hc1 hbb hy
                      have HZE := Aside0.mk hze
                      have HHas := Aside0.mk (fun W => impl_has.calls z.f0 (m : Int) bb W hbb)
                      have HTN := Aside0.mk htu
                      have HY := Aside0.mk hy
                      have GB12 := Aside0.mk gb12
                      have GL12 := Aside0.mk gl12
                      have hBoL : Bo < wr.heap.size := blk_lt HOwn.out
                      have hBkL : Bk < wr.heap.size := blk_lt HKb.out
                      have n1 : Bo ≠ wr.heap.size := by omega
                      have n2 : Bk ≠ wr.heap.size := by omega
                      have n3 : g12 ≠ wr.heap.size := by omega
                      have hk : wr.cell? ⟨Bk, 0, none⟩ = some (.int .i64 (m : Int)) := (blk_cell HKb.out 0).trans rfl
                      have e1 : ((jj : Int) < (N12 : Int)) = True := eq_true (by omega)
                      have e1b : decide ((jj : Int) < (N12 : Int)) = true := decide_eq_true (by omega)
                      have e0 : (0 ≤ (jj : Int)) = True := eq_true (by omega)
                      clear hbb hy htu hze
                      go_wp2_with fail
                      refine (HHas.out _).mono ?_
                      rintro e w6 ⟨rfl, ⟨nd, rfl⟩⟩
                      have HOwn' := Aside0.mk (blk_drewN (blk_alloc HOwn.out (.cells #[.int .i64 z.f0, .string z.f1] 32)) nd)
                      have HKb' := Aside0.mk (blk_drewN (blk_alloc HKb.out (.cells #[.int .i64 z.f0, .string z.f1] 32)) nd)
                      have HRw' := Aside0.mk (blk_drewN (blk_alloc HRw.out (.cells #[.int .i64 z.f0, .string z.f1] 32)) nd)
                      have HR1' := Aside0.mk (Kd.R_drewN (Kd.R_alloc HR1.out (.cells #[.int .i64 z.f0, .string z.f1] 32)) nd)
                      have HR2' := Aside0.mk (Kd.R_drewN (Kd.R_alloc HR2.out (.cells #[.int .i64 z.f0, .string z.f1] 32)) nd)
                      have HOt' := Aside0.mk (blk_drewN (blk_new wr (.cells #[.int .i64 z.f0, .string z.f1] 32)) nd)
                      have HB' := Aside0.mk (pw_below_drewN (below_alloc HB.out (.cells #[.int .i64 z.f0, .string z.f1] 32)) nd)
                      clear HOwn HKb HRw HR1 HR2 HB hc0 hc1 hf0 hf1 hk
                      generalize (wr.alloc (.cells #[.int .i64 z.f0, .string z.f1] 32)).drewN nd = W6 at *
                      cases bb with
                      | false =>
                        have HE := HY.out
                        rw [if_neg (by decide)] at HE
                        injection HE with HE
                        have hcs : cur.set jj y = cur := by
                          have hl : jj < cur.length := by have := HCL.out; omega
                          have er : rd_T32 cur (jj : Int) = cur[jj] := by simp [rd_T32, List.getD_eq_getElem?_getD, hl]
                          rw [← HE, HZE.out, er, List.set_getElem_self]
                        have HCS := Aside0.mk hcs
                        clear hcs HE
                        have hw : IntKind.i64.wrap ((jj : Int) + 1) = ((jj + 1 : Nat) : Int) := by
                          have := HSZ.out
                          simp only [IntKind.wrap, IntKind.signed, IntKind.bits]
                          simp
                          omega
                        go_wp2
                        go_roundg (N12 - (jj + 1))
                        case measure => omega
                        case rel => exact ⟨jj + 1, cur, by omega, by omega, by first | rfl | exact congrArg (Value.int .i64) hw, HCL, ⟨by have q := HTN.out; rw [HCS.out] at q; exact q⟩, HR1', HR2', HOwn', HKb', HRw', HB'⟩
                      | true =>
                        have HE := HY.out
                        rw [if_pos rfl] at HE
                        obtain ⟨tx, htx, HE⟩ := Option.bind_eq_some_iff.1 HE
                        injection HE with HE
                        have HYE := Aside0.mk HE
                        have HU := Aside0.mk (fun W => impl_unlikeText.calls z.f1 x.f1 tx W htx)
                        have ho0 : W6.cell? ⟨Bo, 0, none⟩ = some (.int .i64 x.f0) := (blk_cell HOwn'.out 0).trans rfl
                        have ho1 : W6.cell? ⟨Bo, 1, none⟩ = some (.string x.f1) := (blk_cell HOwn'.out 1).trans rfl
                        have ht0 : W6.cell? ⟨wr.heap.size, 0, none⟩ = some (.int .i64 z.f0) := (blk_cell HOt'.out 0).trans rfl
                        have ht1 : W6.cell? ⟨wr.heap.size, 1, none⟩ = some (.string z.f1) := (blk_cell HOt'.out 1).trans rfl
                        have hBo6 : Bo < W6.heap.size := blk_lt HOwn'.out
                        have hOt6 : wr.heap.size < W6.heap.size := blk_lt HOt'.out
                        have HEnd := Aside0.mk (show ∀ w7 : World, Below W6.drew.heap.size W6.drew w7 → Kd.R k32 32 ((w7.setCell ⟨g12, jj * 2, none⟩ (.int .i64 (Go.bits .xor .i64 z.f0 x.f0))).setCell ⟨g12, jj * 2 + 1, none⟩ (.string tx)) w.heap.size (fun _ => True) (.slice (some ⟨g12, 0, none⟩) N12 c12) (cur.set jj y) ∧ Kd.R k32 32 ((w7.setCell ⟨g12, jj * 2, none⟩ (.int .i64 (Go.bits .xor .i64 z.f0 x.f0))).setCell ⟨g12, jj * 2 + 1, none⟩ (.string tx)) w.heap.size (fun _ => True) vo xs2 ∧ ((w7.setCell ⟨g12, jj * 2, none⟩ (.int .i64 (Go.bits .xor .i64 z.f0 x.f0))).setCell ⟨g12, jj * 2 + 1, none⟩ (.string tx)).heap[Bo]? = some (.cells #[.int .i64 x.f0, .string x.f1] 32 (0, 0)) ∧ ((w7.setCell ⟨g12, jj * 2, none⟩ (.int .i64 (Go.bits .xor .i64 z.f0 x.f0))).setCell ⟨g12, jj * 2 + 1, none⟩ (.string tx)).heap[Bk]? = some (.cells #[.int .i64 (m : Int)] 3 (0, 0)) ∧ ((w7.setCell ⟨g12, jj * 2, none⟩ (.int .i64 (Go.bits .xor .i64 z.f0 x.f0))).setCell ⟨g12, jj * 2 + 1, none⟩ (.string tx)).heap[w4.heap.size]? = some (.cells #[.slice A6 told.length c6, .slice (some ⟨g7, 0, none⟩) (left.length - 1) c7] 49 (0, 0)) ∧ Below w.heap.size w ((w7.setCell ⟨g12, jj * 2, none⟩ (.int .i64 (Go.bits .xor .i64 z.f0 x.f0))).setCell ⟨g12, jj * 2 + 1, none⟩ (.string tx)) from by
                          intro w7 hb7
                          have hb6 : Below W6.heap.size W6 w7 := ⟨hb7.os, hb7.tape, hb7.output, hb7.size, hb7.block⟩
                          obtain ⟨s1, s2⟩ := HS12.out g12 rfl
                          have hlt := HBo.out
                          have hg8 := grown_two (grown_set w7 g12 (jj * 2) (.int .i64 (Go.bits .xor .i64 z.f0 x.f0))) (grown_set (w7.setCell ⟨g12, jj * 2, none⟩ (.int .i64 (Go.bits .xor .i64 z.f0 x.f0))) g12 (jj * 2 + 1) (.string tx))
                          refine ⟨?_, ?_, ?_, ?_, ?_, ?_⟩
                          · rw [← HYE.out]
                            exact prow_put (Kd.R_below HR1'.out hb6) jj hj2 ⟨Go.bits .xor .i64 z.f0 x.f0, tx⟩
                          · exact prow_keep (Kd.R_below HR2'.out hb6) (fun k hk => hg8.block k (Kd.R_lt (Kd.R_below HR2'.out hb6) k hk) (fun e => HD12.out g12 rfl (by rw [hk, e])))
                          · exact blk_grown ((hb6.block Bo hBo6).trans HOwn'.out) hg8 (fun e => by injection e with e; omega)
                          · exact blk_grown ((hb6.block Bk (blk_lt HKb'.out)).trans HKb'.out) hg8 (fun e => s1 (by injection e with e; exact e.symm))
                          · exact blk_grown ((hb6.block _ (blk_lt HRw'.out)).trans HRw'.out) hg8 (fun e => by injection e with e; omega)
                          · exact below_set (below_set (HB'.out.trans (hb6.mono HB'.out.size)) GB12.out) GB12.out)
                        have hw : IntKind.i64.wrap ((jj : Int) + 1) = ((jj + 1 : Nat) : Int) := by
                          have := HSZ.out
                          simp only [IntKind.wrap, IntKind.signed, IntKind.bits]
                          simp
                          omega
                        have HW := Aside0.mk hw
                        clear HE htx hw
                        go_wp2
                        go_region_with (go_at_call 53; refine (HU.out _).mono ?_; rintro e w7 ⟨rfl, hb7⟩; have HB7 := Aside0.mk hb7; have ho0' : w7.cell? ⟨Bo, 0, none⟩ = some (.int .i64 x.f0) := (hb7.cell (p := ⟨Bo, 0, none⟩) hBo6).trans ho0; have ht0' : w7.cell? ⟨wr.heap.size, 0, none⟩ = some (.int .i64 z.f0) := (hb7.cell (p := ⟨wr.heap.size, 0, none⟩) hOt6).trans ht0; have HR7 := Aside0.mk (Kd.R_below (Kd.R_drew HR1'.out) hb7); obtain ⟨hs0, hs1, hs2, hs3⟩ := prow_cell HR7.out jj hj2; clear hb7)
                        all_goals (obtain ⟨a1, a2, a3, a4, a5, a6⟩ := HEnd.out _ HB7.out)
                        all_goals go_wp2
                        all_goals go_roundg (N12 - (jj + 1))
                        all_goals first
                          | (case measure => omega)
                          | skip
                        all_goals (case rel => exact ⟨jj + 1, cur.set jj y, by omega, by omega, by first | rfl | exact congrArg (Value.int .i64) HW.out | exact congrArg (Value.int .i64) ((i64_w _).symm.trans HW.out), ⟨by rw [List.length_set]; exact HCL.out⟩, HTN, ⟨a1⟩, ⟨a2⟩, ⟨a3⟩, ⟨a4⟩, ⟨a5⟩, ⟨a6⟩⟩)
                    · obtain rfl : jj = N12 := by omega
                      have hye := Turned.done HTU.out (by have := HCL.out; omega)
                      have e1 : ((jj : Int) < (jj : Int)) = False := eq_false (by omega)
                      have e1b : decide ((jj : Int) < (jj : Int)) = false := decide_eq_false (by omega)
                      obtain ⟨T', L', hq', h6', h7'⟩ := HFin.out wr (by rw [hye]; exact HR1.out) HR2.out
                      have HQ' := Aside0.mk hq'
                      have H6' := Aside0.mk h6'
                      have H7' := Aside0.mk h7'
                      have hw2 : IntKind.i64.wrap ((q : Int) + 1) = ((q + 1 : Nat) : Int) := by
                        simp only [IntKind.wrap, IntKind.signed, IntKind.bits]
                        simp
                        omega
                      clear hq' h6' h7' hye
                      go_wp2
                      go_roundg (2 - (q + 1))
                      case measure => omega
                      case rel => exact ⟨q + 1, T', L', by omega, by omega, by first | rfl | exact congrArg (Value.int .i64) hw2, HQ', H6', H7', HOwn, HKb, HRw, HB⟩
                · obtain rfl : q = 2 := by omega
                  obtain ⟨hT, hL⟩ : T = ts ∧ L = ls := by rcases HQ.out with ⟨e, _, _⟩ | ⟨e, _, _⟩ | ⟨_, e1, e2⟩ <;> first | omega | exact ⟨e1, e2⟩
                  subst hT hL
                  have ho0 : wr.cell? ⟨Bo, 0, none⟩ = some (.int .i64 x.f0) := (blk_cell HOwn.out 0).trans rfl
                  have ho1 : wr.cell? ⟨Bo, 1, none⟩ = some (.string x.f1) := (blk_cell HOwn.out 1).trans rfl
                  have LT := Aside0.mk (show T.length ≤ 1000 from by have h1 := HL1'.out; have h2 := HT.out; have h3 := D2.out; omega)
                  have hk0 : wr.cell? ⟨Bk, 0, none⟩ = some (.int .i64 (m : Int)) := (blk_cell HKb.out 0).trans rfl
                  go_wp2_with (first | ((with_reducible refine gate_builtin (b := .append) (xs := #[.tmp 72, .tmp 74]) rfl ?_); at_builtin; refine Kd.R_append k32 (w0 := w) w.heap.size rfl (.tmp 72) (.tmp 74) 49 32 (.agg #[(.int .i64 0), (.string ⟨#[]⟩)]) 24 rfl Try.underlying49 info32 rfl (by decide) (by omega) (.slice A6 told.length c6) T x [.int .i64 x.f0, .string x.f1] (fun _ => True) (fun _ => False) rfl rfl ?aP (fun _ hk => hk.elim) ?aF ?aO ?aB ?aS ?aL ?_; (case aP => exact k32_mkM _ _ _ x); (case aB => exact HB.out); (case aF => exact (fun _ _ => trivial)); (case aO => exact HO6.out); (case aS => exact HB.out.size); (case aL => have := LT.out; omega); intro v8 w8 ho hb hg hat; have HO8 := Aside0.mk ho; have HB8 := Aside0.mk hb; have HG8 := Aside0.mk hg; have HAT := Aside0.mk hat; have hk8 : w8.cell? ⟨Bk, 0, none⟩ = some (.int .i64 (m : Int)) := (blk_cell (blk_grown HKb.out hg (fun e => (HS6.out Bk e.symm).1 rfl)) 0).trans rfl; clear ho hb hg hat))
                  have ew2 : wrap64 ((m : Int) - 1) = (m : Int) - 1 := by
                    have := HT.out
                    have := D2.out
                    rw [← i64_w]
                    simp only [IntKind.wrap, IntKind.signed, IntKind.bits]
                    simp
                    omega
                  try go_wp2
                  rw [ew2]
                  go_roundg m
                  case measure => omega
                  case rel => exact ⟨T ++ [x], L, w8.heap.size, m, Nat.le_refl _, rfl, ⟨by have h1 := HL1'.out; have h2 := HT.out; have h3 := HL2'.out; have h4 := HE4.out; rw [List.length_append]; exact ⟨by show T.length + 1 + m ≤ n; omega, by omega⟩⟩, HH2, ⟨blk_new w8 _⟩, ⟨Kd.R_alloc HO8.out _⟩, ⟨Kd.R_alloc (prow_keep HO7.out (fun k hk => HG8.out.block k (Kd.R_lt HO7.out k hk) (fun e => HD.out k e.symm hk))) _⟩, ⟨fun k hk e => by rcases HAT.out with h1 | ⟨b, h1, h2⟩; exact HD.out k (h1 ▸ hk) e; exact absurd (Kd.R_lt HO7.out k e) (by rw [h1] at hk; injection hk with hk; omega)⟩, ⟨below_alloc HB8.out _⟩⟩
      · rw [if_neg d3] at h
        cases h
    · rw [if_neg d2] at h
      cases h
  · rw [if_neg d1] at h
    cases h

end Go.Proofs.Ytmglhpajnhdafaa.PQ
