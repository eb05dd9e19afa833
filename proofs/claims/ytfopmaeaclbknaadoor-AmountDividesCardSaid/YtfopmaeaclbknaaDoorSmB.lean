/- Contract of slices.symMergeCmpFunc, whole. Printed by gen_sm4.py. slices.SortStableFunc of at most 40 elements. Printed by gen_sm5.py. -/
import Derived.Test.YtfopmaeaclbknaaDoorSmA
import Derived.Deep.CutBlock
import Derived.Deep.DeepCutAuto
import Derived.Test.YtfopmaeaclbknaaDoorSo2
namespace Go.Proofs.YtfopmaeaclbknaaDoor
open Go.ChangeShapes Go.WideShapes Go.ChangeAt Go.RowKit
set_option linter.unusedVariables false
set_option linter.unusedSimpArgs false
namespace So
theorem rotF_none {f : Nat → Nat} {s m e : Nat} (h : s = m ∨ m = e) (h1 : s ≤ m) (h2 : m ≤ e) : rotF f s m e = f := by
  funext k
  unfold rotF
  rcases h with rfl | rfl
  · by_cases c : s ≤ k ∧ k < s + (e - s)
    · rw [if_pos c]; congr 1; omega
    · rw [if_neg c, if_neg (by omega)]
  · rw [if_neg (by omega)]
    by_cases c : s + (m - m) ≤ k ∧ k < m
    · rw [if_pos c]; congr 1; omega
    · rw [if_neg c]
/-- where the search of a merge goes -/
structure SrchF (a m b d lo hi : Nat) : Prop where
  alo : a ≤ lo
  hm : hi ≤ m
  hd : hi ≤ d
  le : lo ≤ hi
  hb : d + m ≤ lo + b
  l2 : lo = a ∨ lo + b = d + m
  h2 : hi = m ∨ hi = d
theorem CmpOk.far {w w1 : World} {g gc N : Nat} {r : Nat → Nat} (h : CmpOk w g gc N r) (f : Far g w w1) : CmpOk w1 g gc N r := fun w' k x y hx hy => h w' (f.trans k) x y hx hy
set_option maxHeartbeats 4000000 in
set_option maxRecDepth 100000 in
theorem merge_step (w : World) (base g gc n N a m b : Nat) (r f : Nat → Nat) (ham : a + 1 < m) (hmb : m + 1 < b) (hb : b ≤ n) (hn : n ≤ 1000) (hA : SortedF r f a m) (hB : SortedF r f m b) (hL : LeftF f a m b) (hN : ∀ k, k < n → f k < N) (hc : CmpOk w g gc N r) (hr : RowF w base g 3 n (f))
    (IH : ∀ (w' : World) (a' m' b' : Nat) (f' : Nat → Nat), b' - a' < b - a → a' < m' → m' < b' → b' ≤ n → SortedF r f' a' m' → SortedF r f' m' b' → LeftF f' a' m' b' → (∀ k, k < n → f' k < N) → CmpOk w' g gc N r → RowF w' base g 3 n (f') → Calls Tryd.prog 92 #[.slice (some ⟨g, 0, none⟩) n n, .int .i64 ((a' : Nat) : Int), .int .i64 ((m' : Nat) : Int), .int .i64 ((b' : Nat) : Int), .func (.func 49) #[] #[.pointer (some ⟨gc, 0, none⟩)]] w' (MergePost w' base g n r f' a' b')) : Calls Tryd.prog 92 #[.slice (some ⟨g, 0, none⟩) n n, .int .i64 ((a : Nat) : Int), .int .i64 ((m : Nat) : Int), .int .i64 ((b : Nat) : Int), .func (.func 49) #[] #[.pointer (some ⟨gc, 0, none⟩)]] w (MergePost w base g n r f a b) := by
  have ha0 : (0 : Int) ≤ (a : Int) := by omega
  have hm0 : (0 : Int) ≤ (m : Int) := by omega
  have hb0 : (0 : Int) ≤ (b : Int) := by omega
  have ha5 : (a : Int) ≤ 1000 := by omega
  have hm5 : (m : Int) ≤ 1000 := by omega
  have hb5 : (b : Int) ≤ 1000 := by omega
  have q1 : ((m : Int) - (a : Int) == 1) = false := beq_eq_false_iff_ne.2 (by omega)
  have q2 : ((b : Int) - (m : Int) == 1) = false := beq_eq_false_iff_ne.2 (by omega)
  obtain ⟨d, hd, z1, z2, z3, e1, e2, e3, e4, e5, e6⟩ := half_facts (show a < b by omega) (by omega)
  have HD := Lib.hid hd
  have HR := Lib.hid hr
  have HC := Lib.hid hc
  have HN := Lib.hid hN
  have HA := Lib.hid hA
  have HB := Lib.hid hB
  have HL := Lib.hid hL
  have HAM := Lib.hid ham
  have HMB := Lib.hid hmb
  have HBN := Lib.hid hb
  have IH := Lib.hid IH
  have hd0 : (0 : Int) ≤ (d : Int) := by omega
  have hd5 : (d : Int) ≤ 1000 := by omega
  clear hd hr hc hN hA hB hL ham hmb hb
  go_enter Tryd.func92, Tryd.ntmps92
  obtain ⟨cm, hcm⟩ : ∃ cm, cm = decide (d < m) := ⟨_, rfl⟩
  have d1 : decide (d < m) = cm := hcm.symm
  have d2 : decide ((d : Int) < (m : Int)) = cm := by rw [hcm, decide_eq_decide]; omega
  have HCM := Lib.hid hcm
  clear hcm
  go_upto_if 140 with fail
  go_cut [20, 21] (fun s t wx => ∃ lo hi : Nat, s = .int .i64 (lo : Int) ∧ t = .int .i64 (hi : Int) ∧ w = wx ∧ Hid (SrchF a m b d lo hi))
  case first => as_aux_lemma =>
    clear d1 d2
    cases cm
    case true =>
      have hmd : d < m := of_decide_eq_true HCM.out.symm
      have hs : (d : Int) + (m : Int) - (b : Int) = ((d + m - b : Nat) : Int) := by have := HD.out; omega
      have HS : Hid (SrchF a m b d (d + m - b) d) := ⟨by have := HD.out; omega, by omega, Nat.le_refl _, by have := HMB.out; omega, by have := HD.out; omega, .inr (by have := HD.out; omega), .inr rfl⟩
      clear hmd
      go_wp2_with fail
      go_meet
      case rel => exact ⟨d + m - b, d, by go_num, rfl, rfl, HS⟩
    case false =>
      have hmd : ¬ d < m := of_decide_eq_false HCM.out.symm
      have HS : Hid (SrchF a m b d a m) := ⟨Nat.le_refl _, Nat.le_refl _, by omega, by have := HAM.out; omega, by have := HD.out; omega, .inl rfl, .inl rfl⟩
      clear hmd
      go_wp2_with fail
      go_meet
      case rel => exact ⟨a, m, rfl, rfl, rfl, HS⟩
  case rest =>
    obtain ⟨lo, hi, rfl, rfl, rfl, HS⟩ := hcut
    clear d1 d2 HCM
    have hp0 : (d : Int) + (m : Int) - 1 = ((d + m - 1 : Nat) : Int) := by have := HAM.out; omega
    obtain ⟨p, hp⟩ : ∃ p, p = d + m - 1 := ⟨_, rfl⟩
    rw [← hp] at hp0
    have HP : Hid (p + 1 = d + m) := by have := HAM.out; show p + 1 = d + m; omega
    have hp5 : (p : Int) ≤ 2000 := by omega
    clear hp
    go_wp2_with fail
    go_loopw [20, 21] (fun v u wr => ∃ s t : Nat, lo ≤ s ∧ s ≤ t ∧ t ≤ hi ∧ v = .int .i64 (s : Int) ∧ u = .int .i64 (t : Int) ∧ Hid ((s = lo ∨ LT r (f (s - 1)) (f (d + m - s))) ∧ (t = hi ∨ LT r (f (d + m - 1 - t)) (f t))) ∧ Hid (RowF wr base g 3 n (f) ∧ Far g w wr)) (fun v u _ => (intOf u).toNat - (intOf v).toNat)
    case atStart => exact ⟨lo, hi, Nat.le_refl _, HS.out.le, Nat.le_refl _, rfl, rfl, ⟨.inl rfl, .inl rfl⟩, HR.out, Far.refl _ _⟩
    case round =>
      obtain ⟨i, j, hi', hij, hj, rfl, rfl, HI, HW⟩ := hrel
      have hi0 : (0 : Int) ≤ (i : Int) := by omega
      have hj0 : (0 : Int) ≤ (j : Int) := by omega
      have hj5 : (j : Int) ≤ 1000 := by have := HS.out.hm; omega
      have hi5 : (i : Int) ≤ 1000 := by omega
      by_cases hlt : i < j
      · have d1 : decide (i < j) = true := decide_eq_true hlt
        have d2 : decide ((i : Int) < (j : Int)) = true := decide_eq_true (by omega)
        obtain ⟨z, hz, y1, y2, y3, x1, x2, x3, x4, x5, x6⟩ := half_facts hlt (by omega)
        have HZ : Hid (z = (i + j) / 2) := hz
        have HZR : Hid (a ≤ z ∧ z < m ∧ m ≤ p - z ∧ p - z < b ∧ z ≤ p) := by
          have := HS.out.alo; have := HS.out.hm; have := HS.out.hd; have := HS.out.hb; have := HP.out
          show a ≤ z ∧ z < m ∧ m ≤ p - z ∧ p - z < b ∧ z ≤ p
          omega
        have hzn : z < n := by have := HBN.out; have := HMB.out; have := HZR.out; omega
        obtain ⟨y, hy⟩ : ∃ y, y = p - z := ⟨_, rfl⟩
        have hyi : (p : Int) - (z : Int) = (y : Int) := by have := HZR.out; omega
        have hyn : y < n := by have := HBN.out; have := HZR.out; omega
        have hzn1 : (z : Int) < (n : Int) := by omega
        have hyn1 : (y : Int) < (n : Int) := by omega
        have hz0 : (0 : Int) ≤ (z : Int) := by omega
        have hy0 : (0 : Int) ≤ (y : Int) := by omega
        have hz5 : (z : Int) ≤ 1000 := by omega
        have hy5 : (y : Int) ≤ 1000 := by omega
        have c1 : wr.cell? ⟨g, z, none⟩ = some (.int .i64 ((f z : Nat) : Int)) := HW.out.1.cell hzn
        have c2 : wr.cell? ⟨g, y, none⟩ = some (.int .i64 ((f y : Nat) : Int)) := HW.out.1.cell hyn
        have CC := Lib.hid (fun k => HC.out (wr.drewN k) (HW.out.2.drewN k) (f y) (f z) (HN.out y hyn) (HN.out z hzn))
        have HLT : Hid (f z < f y) := HL.out z y HZR.out.1 HZR.out.2.1 (by have := HZR.out; omega) (by have := HZR.out; omega)
        have hy1 : d + m - (z + 1) = y := by have := HP.out; have := HZR.out; omega
        have hy2 : d + m - 1 - z = y := by have := HP.out; have := HZR.out; omega
        have HX1 : Hid (LT r (f z) (f y) → (z + 1 = lo ∨ LT r (f (z + 1 - 1)) (f (d + m - (z + 1)))) ∧ (j = hi ∨ LT r (f (d + m - 1 - j)) (f j))) := fun h => ⟨.inr (by rw [hy1]; exact h), HI.out.2⟩
        have HX2 : Hid (LT r (f y) (f z) → (i = lo ∨ LT r (f (i - 1)) (f (d + m - i))) ∧ (z = hi ∨ LT r (f (d + m - 1 - z)) (f z))) := fun h => ⟨HI.out.1, .inr (by rw [hy2]; exact h)⟩
        obtain ⟨x, hx⟩ : ∃ x, x = cmpv (r (f y)) (r (f z)) := ⟨_, rfl⟩
        have CC2 : Hid (∀ k, Calls Tryd.prog 49 #[.int .i64 ((f y : Nat) : Int), .int .i64 ((f z : Nat) : Int), .pointer (some ⟨gc, 0, none⟩)] (wr.drewN k) fun e w'' => e = .returned (.int .i64 x) ∧ ∃ q, w'' = (wr.drewN k).drewN q) := by rw [hx]; exact CC.out
        have HCASE := Lib.hid (cmp_left (r := r) HLT.out)
        rw [← hx] at HCASE
        clear CC hz hx hlt hy hy1 hy2
        rcases HCASE.out with ⟨k1, k2⟩ | ⟨k1, k2⟩
        · as_aux_lemma =>
          have K2 := Lib.hid (HX2.out k2)
          clear k2 HX1 HX2 HCASE
          go_wp2_with fail
          go_quiet ((go_at_call 49; exact Calls.quiet_of (CC2.out _)))
          go_wp2_with fail
          have HW3 : Hid (RowF (wr.drewN nq) base g 3 n (f) ∧ Far g w (wr.drewN nq)) := ⟨HW.out.1.drewN nq, HW.out.2.drewN nq⟩
          go_roundw
          case rel => exact ⟨i, z, hi', y1, by omega, rfl, rfl, K2.out, HW3.out⟩
          case measure => simp [intOf]; omega
        · as_aux_lemma =>
          have K2 := Lib.hid (HX1.out k2)
          clear k2 HX1 HX2 HCASE
          go_wp2_with fail
          go_quiet ((go_at_call 49; exact Calls.quiet_of (CC2.out _)))
          go_wp2_with fail
          have HW3 : Hid (RowF (wr.drewN nq) base g 3 n (f) ∧ Far g w (wr.drewN nq)) := ⟨HW.out.1.drewN nq, HW.out.2.drewN nq⟩
          go_roundw
          case rel => exact ⟨z + 1, j, by omega, by omega, hj, by go_num, rfl, K2.out, HW3.out⟩
          case measure => simp [intOf]; omega
      · obtain rfl : i = j := by omega
        have d1 : decide (i < i) = false := decide_eq_false (Nat.lt_irrefl _)
        have d2 : decide ((i : Int) < (i : Int)) = false := decide_eq_false (Int.lt_irrefl _)
        have hel : (d : Int) + (m : Int) - (i : Int) = ((d + m - i : Nat) : Int) := by have := HS.out.hd; omega
        obtain ⟨el, hel2⟩ : ∃ el, el = d + m - i := ⟨_, rfl⟩
        rw [← hel2] at hel
        have HCUT : Hid (CutF r f a m b i el ∧ d = i + (el - m) ∧ i ≤ d ∧ el ≤ b) := by
          have g1 := HS.out.alo; have g2 := HS.out.hm; have g3 := HS.out.hd; have g4 := HS.out.hb; have g5 := HS.out.l2; have g6 := HS.out.h2
          refine ⟨cut_of HA.out HB.out (by omega) (by omega) (by omega) (by omega) ?_ ?_, by omega, by omega, by omega⟩
          · rcases HI.out.1 with h | h
            · rcases g5 with g5 | g5
              · left; omega
              · right; left; omega
            · right; right; rw [hel2]; exact h
          · rcases HI.out.2 with h | h
            · rcases g6 with g6 | g6
              · left; omega
              · right; left; omega
            · right; right
              have : el - 1 = d + m - 1 - i := by omega
              rw [this]; exact h
        have he0 : (0 : Int) ≤ (el : Int) := by omega
        have he5 : (el : Int) ≤ 1000 := by have := HCUT.out.2.2.2; omega
        clear hel2 HI hi' hij hj HS
        go_upto_region 39 with fail
        go_cut [185] (fun c wx => c = .bool (decide (i < m ∧ m < el)) ∧ wr = wx)
        case first =>
          by_cases h1 : i < m
          · have g1 : decide (i < m) = true := decide_eq_true h1
            have g2 : decide ((i : Int) < (m : Int)) = true := decide_eq_true (by omega)
            by_cases h2 : m < el
            · have g3 : decide (m < el) = true := decide_eq_true h2
              have g4 : decide ((m : Int) < (el : Int)) = true := decide_eq_true (by omega)
              have K := Lib.hid (decide_eq_true (show i < m ∧ m < el from ⟨h1, h2⟩))
              clear h1 h2
              go_wp2_with fail
              go_meet
              case rel => exact ⟨by rw [K.out], rfl⟩
            · have g3 : decide (m < el) = false := decide_eq_false h2
              have g4 : decide ((m : Int) < (el : Int)) = false := decide_eq_false (by omega)
              have K := Lib.hid (decide_eq_false (show ¬ (i < m ∧ m < el) from fun h => h2 h.2))
              clear h1 h2
              go_wp2_with fail
              go_meet
              case rel => exact ⟨by rw [K.out], rfl⟩
          · have g1 : decide (i < m) = false := decide_eq_false h1
            have g2 : decide ((i : Int) < (m : Int)) = false := decide_eq_false (by omega)
            have K := Lib.hid (decide_eq_false (show ¬ (i < m ∧ m < el) from fun h => h1 h.1))
            clear h1
            go_wp2_with fail
            go_meet
            case rel => exact ⟨by rw [K.out], rfl⟩
        case rest =>
        obtain ⟨rfl, rfl⟩ := hcut
        obtain ⟨cb, hcb⟩ : ∃ cb, cb = decide (i < m ∧ m < el) := ⟨_, rfl⟩
        rw [← hcb]
        have HCB := Lib.hid hcb
        clear hcb
        go_upto_if 185 with fail
        go_cut [24] (fun s wx => s = .int .i64 (el : Int) ∧ Hid (RowF wx base g 3 n (rotF f i m el) ∧ Far g w wx))
        case first => as_aux_lemma =>
          cases cb
          · have HW2 : Hid (RowF wr base g 3 n (rotF f i m el) ∧ Far g w wr) := by
              have k1 := HCUT.out.1.sm
              have k2 := HCUT.out.1.me
              have k3 : ¬ (i < m ∧ m < el) := of_decide_eq_false HCB.out.symm
              rw [rotF_none (by omega) (by omega) (by omega)]; exact HW.out
            go_wp2_with fail
            go_meet
            case rel => exact ⟨rfl, HW2⟩
          · have k3 : i < m ∧ m < el := of_decide_eq_true HCB.out.symm
            have CR := Lib.hid (rotate_any wr base g gc n i m el f k3.1 k3.2 (by have := HCUT.out.2.2.2; have := HBN.out; omega) hn HW.out.1)
            clear k3
            go_wp2_with fail
            refine CR.out.mono ?_
            rintro e w2 ⟨rfl, k1, k2⟩
            have HW2 : Hid (RowF w2 base g 3 n (rotF f i m el) ∧ Far g w w2) := ⟨k1, HW.out.2.trans k2⟩
            clear k1 k2
            go_wp2_with fail
            go_meet
            case rel => exact ⟨rfl, HW2⟩
        case rest =>
          obtain ⟨rfl, HW2⟩ := hcut
          rename World => w3
          have HH := Lib.hid (rot_halves HA.out HB.out HCUT.out.1 HCUT.out.2.1)
          have HLL := Lib.hid (rot_left HL.out HCUT.out.1.las HCUT.out.1.sm HCUT.out.1.me HCUT.out.1.eb HCUT.out.2.1)
          have HMX : Hid (MixF f (rotF f i m el) a b) := (rotF_mix HCUT.out.1.sm HCUT.out.1.me |> fun h => ⟨fun k hk => h.out k (by rcases hk with hk | hk; exact .inl (by have := HCUT.out.1.las; have := HCUT.out.1.sm; omega); exact .inr (by have := HCUT.out.1.eb; omega)), (h.trans (MixF.refl _ _ _) |>.wide HCUT.out.1.las HCUT.out.1.eb).src⟩)
          have HBD : Hid (a ≤ i ∧ i ≤ d ∧ d ≤ el ∧ el ≤ b ∧ a < d ∧ d < b) := by
            have k1 := HCUT.out.1.las; have k2 := HCUT.out.1.sm; have k3 := HCUT.out.2.1; have k4 := HCUT.out.2.2.2; have k5 := HCUT.out.1.me; have k6 := HD.out; have k7 := HAM.out; have k8 := HMB.out
            show a ≤ i ∧ i ≤ d ∧ d ≤ el ∧ el ≤ b ∧ a < d ∧ d < b
            omega
          obtain ⟨f1, hf1⟩ : ∃ f1, f1 = rotF f i m el := ⟨_, rfl⟩
          rw [← hf1] at HH HLL HMX HW2
          have HN1 : Hid (∀ k, k < n → f1 k < N) := HMX.out.lt HBN.out HN.out
          clear hf1 HCUT HW
          go_upto_region 41 with fail
          go_cut [199] (fun c wx => c = .bool (decide (a < i ∧ i < d)) ∧ w3 = wx)
          case first =>
            by_cases h1 : a < i
            · have g1 : decide (a < i) = true := decide_eq_true h1
              have g2 : decide ((a : Int) < (i : Int)) = true := decide_eq_true (by omega)
              by_cases h2 : i < d
              · have g3 : decide (i < d) = true := decide_eq_true h2
                have g4 : decide ((i : Int) < (d : Int)) = true := decide_eq_true (by omega)
                have K := Lib.hid (decide_eq_true (show a < i ∧ i < d from ⟨h1, h2⟩))
                clear h1 h2
                go_wp2_with fail
                go_meet
                case rel => exact ⟨by rw [K.out], rfl⟩
              · have g3 : decide (i < d) = false := decide_eq_false h2
                have g4 : decide ((i : Int) < (d : Int)) = false := decide_eq_false (by omega)
                have K := Lib.hid (decide_eq_false (show ¬ (a < i ∧ i < d) from fun h => h2 h.2))
                clear h1 h2
                go_wp2_with fail
                go_meet
                case rel => exact ⟨by rw [K.out], rfl⟩
            · have g1 : decide (a < i) = false := decide_eq_false h1
              have g2 : decide ((a : Int) < (i : Int)) = false := decide_eq_false (by omega)
              have K := Lib.hid (decide_eq_false (show ¬ (a < i ∧ i < d) from fun h => h1 h.1))
              clear h1
              go_wp2_with fail
              go_meet
              case rel => exact ⟨by rw [K.out], rfl⟩
          case rest =>
          obtain ⟨rfl, rfl⟩ := hcut
          obtain ⟨cb, hcb⟩ : ∃ cb, cb = decide (a < i ∧ i < d) := ⟨_, rfl⟩
          rw [← hcb]
          have HCB := Lib.hid hcb
          clear hcb
          go_upto_if 199 with fail
          go_cut [24] (fun s wx => s = .int .i64 (el : Int) ∧ ∃ f2 : Nat → Nat, Hid (MixF f1 f2 a d ∧ SortedF r f2 a d) ∧ Hid (RowF wx base g 3 n (f2) ∧ Far g w wx))
          case first => as_aux_lemma =>
            cases cb
            · have HM2 : Hid (MixF f1 f1 a d ∧ SortedF r f1 a d) := ⟨MixF.refl _ _ _, by
                have k3 : ¬ (a < i ∧ i < d) := of_decide_eq_false HCB.out.symm
                by_cases e : i = d
                · have := HH.out.s1
                  rwa [e] at this
                · have e2 : i = a := by have := HBD.out; omega
                  have := HH.out.s2
                  rwa [e2] at this⟩
              go_wp2_with fail
              go_meet
              case rel => exact ⟨rfl, f1, HM2, HW2⟩
            · have k3 : a < i ∧ i < d := of_decide_eq_true HCB.out.symm
              have CR := Lib.hid (IH.out w3 a i d f1 (by have := HBD.out; omega) k3.1 k3.2 (by have := HBD.out; have := HBN.out; omega) HH.out.s1 HH.out.s2 HLL.out.1 HN1.out (HC.out.far HW2.out.2) HW2.out.1)
              clear k3
              go_wp2_with fail
              refine CR.out.mono ?_
              rintro e w4 ⟨f2, rfl, k1, k2, k3, k4⟩
              have HM2 : Hid (MixF f1 f2 a d ∧ SortedF r f2 a d) := ⟨k1, k2⟩
              have HW4 : Hid (RowF w4 base g 3 n (f2) ∧ Far g w w4) := ⟨k3, HW2.out.2.trans k4⟩
              clear k1 k2 k3 k4
              go_wp2_with fail
              go_meet
              case rel => exact ⟨rfl, f2, HM2, HW4⟩
          case rest =>
            obtain ⟨rfl, f2, HM2, HW4⟩ := hcut
            rename World => w4
            as_aux_lemma =>
              have HDONE : Hid (∀ f3, MixF f2 f3 d b → SortedF r f3 d b → MixF f f3 a b ∧ SortedF r f3 a b) := fun f3 k1 k2 => ⟨(HMX.out.trans (HM2.out.1.wide (Nat.le_refl _) (by have := HBD.out; omega))).trans (k1.wide (by have := HBD.out; omega) (Nat.le_refl _)), halves_done HH.out.lo HM2.out.1 k1 HM2.out.2 k2⟩
              have HS3 : Hid (SortedF r f2 d el ∧ SortedF r f2 el b ∧ LeftF f2 d el b) := ⟨sorted_mix HM2.out.1 HH.out.s3 (.inr (Nat.le_refl _)), sorted_mix HM2.out.1 HH.out.s4 (.inr (by have := HBD.out; omega)), left_mix HM2.out.1 HLL.out.2 (.inr (Nat.le_refl _))⟩
              have HN2 : Hid (∀ k, k < n → f2 k < N) := HM2.out.1.lt (by have := HBD.out; have := HBN.out; omega) HN1.out
              by_cases h1 : d < el
              · have g1 : decide (d < el) = true := decide_eq_true h1
                have g2 : decide ((d : Int) < (el : Int)) = true := decide_eq_true (by omega)
                by_cases h2 : el < b
                · have g3 : decide (el < b) = true := decide_eq_true h2
                  have g4 : decide ((el : Int) < (b : Int)) = true := decide_eq_true (by omega)
                  have CR := Lib.hid (IH.out w4 d el b f2 (by have := HBD.out; omega) h1 h2 HBN.out HS3.out.1 HS3.out.2.1 HS3.out.2.2 HN2.out (HC.out.far HW4.out.2) HW4.out.1)
                  clear h1 h2
                  go_wp2_with fail
                  refine CR.out.mono ?_
                  rintro e w5 ⟨f3, rfl, k1, k2, k3, k4⟩
                  have HM3 := Lib.hid (HDONE.out f3 k1 k2)
                  have HW5 : Hid (RowF w5 base g 3 n (f3) ∧ Far g w w5) := ⟨k3, HW4.out.2.trans k4⟩
                  clear k1 k2 k3 k4
                  go_wp2_with fail
                  go_end0
                  exact ⟨_, rfl, HM3.out.1, HM3.out.2, HW5.out.1, HW5.out.2⟩
                · have g3 : decide (el < b) = false := decide_eq_false h2
                  have g4 : decide ((el : Int) < (b : Int)) = false := decide_eq_false (by omega)
                  have HM3 := Lib.hid (HDONE.out f2 (MixF.refl _ _ _) (by
                    have e : el = b := by have := HBD.out; omega
                    have := HS3.out.1
                    rwa [e] at this))
                  clear h1 h2
                  go_wp2_with fail
                  go_end0
                  exact ⟨_, rfl, HM3.out.1, HM3.out.2, HW4.out.1, HW4.out.2⟩
              · have g1 : decide (d < el) = false := decide_eq_false h1
                have g2 : decide ((d : Int) < (el : Int)) = false := decide_eq_false (by omega)
                have HM3 := Lib.hid (HDONE.out f2 (MixF.refl _ _ _) (by
                  have e : el = d := by have := HBD.out; omega
                  have := HS3.out.2.1
                  rwa [e] at this))
                clear h1
                go_wp2_with fail
                go_end0
                exact ⟨_, rfl, HM3.out.1, HM3.out.2, HW4.out.1, HW4.out.2⟩
theorem merge_all (base g gc n N : Nat) (r : Nat → Nat) (hn : n ≤ 1000) : ∀ (L : Nat) (w : World) (a m b : Nat) (f : Nat → Nat), b - a ≤ L → a < m → m < b → b ≤ n → SortedF r f a m → SortedF r f m b → LeftF f a m b → (∀ k, k < n → f k < N) → CmpOk w g gc N r → RowF w base g 3 n (f) → Calls Tryd.prog 92 #[.slice (some ⟨g, 0, none⟩) n n, .int .i64 ((a : Nat) : Int), .int .i64 ((m : Nat) : Int), .int .i64 ((b : Nat) : Int), .func (.func 49) #[] #[.pointer (some ⟨gc, 0, none⟩)]] w (MergePost w base g n r f a b)
  | 0, w, a, m, b, f, h, h1, h2, _, _, _, _, _, _, _ => by omega
  | L + 1, w, a, m, b, f, h, h1, h2, hb, hA, hB, hL, hN, hc, hr => by
    by_cases c1 : m = a + 1
    · exact merge_one w base g gc n N a m b r f c1 h2 hb hn hA hB hL hN hc hr
    · by_cases c2 : b = m + 1
      · exact merge_last w base g gc n N a m b r f c2 (by omega) hb hn hA hB hL hN hc hr
      · exact merge_step w base g gc n N a m b r f (by omega) (by omega) hb hn hA hB hL hN hc hr fun w' a' m' b' f' k h1' h2' k1 k2 k3 k4 k5 k6 k7 => merge_all base g gc n N r hn L w' a' m' b' f' (by omega) h1' h2' k1 k2 k3 k4 k5 k6 k7
end So
end Go.Proofs.YtfopmaeaclbknaaDoor
namespace Go.Proofs.YtfopmaeaclbknaaDoor
open Go.ChangeShapes Go.WideShapes Go.ChangeAt Go.RowKit
set_option linter.unusedVariables false
set_option linter.unusedSimpArgs false
namespace So
theorem getD_left {a b : List Nat} {i : Nat} (h : i < a.length) : (a ++ b).getD i 0 = a[i] := by
  simp [List.getD, List.getElem?_append_left h, h]
theorem getD_right {a b : List Nat} {i : Nat} (h : a.length ≤ i) (h2 : i - a.length < b.length) : (a ++ b).getD i 0 = b[i - a.length] := by
  simp [List.getD, List.getElem?_append_right h, h2]
/-- two sorted halves of what rose: what the merge is given -/
theorem merge_start {r : Nat → Nat} {L s1 s2 : List Nat} {k n : Nat} (hL : L.Pairwise (· < ·)) (hl : L.length = n) (hk : k ≤ n) (p1 : s1.Perm (L.take k)) (p2 : s2.Perm (L.drop k)) (q1 : s1.Pairwise (LT r)) (q2 : s2.Pairwise (LT r)) :
    (s1 ++ s2).length = n ∧ SortedF r (fun i => (s1 ++ s2).getD i 0) 0 k ∧ SortedF r (fun i => (s1 ++ s2).getD i 0) k n ∧ LeftF (fun i => (s1 ++ s2).getD i 0) 0 k n ∧ (∀ i, i < n → (s1 ++ s2).getD i 0 ∈ L) := by
  have l1 : s1.length = k := by rw [p1.length_eq, List.length_take]; omega
  have l2 : s2.length = n - k := by rw [p2.length_eq, List.length_drop, hl]
  refine ⟨by rw [List.length_append]; omega, fun i j h1 h2 h3 => ?_, fun i j h1 h2 h3 => ?_, fun i j h1 h2 h3 h4 => ?_, fun i hi => ?_⟩
  · show LT r ((s1 ++ s2).getD i 0) ((s1 ++ s2).getD j 0)
    rw [getD_left (by omega), getD_left (by omega)]
    exact List.pairwise_iff_getElem.1 q1 i j (by omega) (by omega) h2
  · show LT r ((s1 ++ s2).getD i 0) ((s1 ++ s2).getD j 0)
    rw [getD_right (by omega) (by omega), getD_right (by omega) (by omega)]
    exact List.pairwise_iff_getElem.1 q2 (i - s1.length) (j - s1.length) (by omega) (by omega) (by omega)
  · show (s1 ++ s2).getD i 0 < (s1 ++ s2).getD j 0
    rw [getD_left (by omega), getD_right (by omega) (by omega)]
    have m1 := p1.mem_iff.1 (List.getElem_mem (l := s1) (n := i) (by omega))
    have m2 := p2.mem_iff.1 (List.getElem_mem (l := s2) (n := j - s1.length) (by omega))
    obtain ⟨x, hx, ex⟩ := List.mem_iff_getElem.1 m1
    obtain ⟨y, hy, ey⟩ := List.mem_iff_getElem.1 m2
    rw [← ex, ← ey, List.getElem_take, List.getElem_drop]
    have hx' : x < k := by simp at hx; omega
    have hy' : k + y < L.length := by simp at hy; omega
    exact List.pairwise_iff_getElem.1 hL x (k + y) (by omega) hy' (by omega)
  · by_cases c : i < k
    · rw [getD_left (by omega)]
      exact List.mem_of_mem_take (p1.mem_iff.1 (List.getElem_mem (l := s1) (n := i) (by omega)))
    · rw [getD_right (by omega) (by omega)]
      exact List.mem_of_mem_drop (p2.mem_iff.1 (List.getElem_mem (l := s2) (n := i - s1.length) (by omega)))
theorem merge_end {r f f' : Nat → Nat} {L : List Nat} {n : Nat} (hl : L.length = n) (hf : ∀ i, i < n → f i ∈ L) (hm : MixF f f' 0 n) (hs : SortedF r f' 0 n) : (rowF n f').Perm L ∧ (rowF n f').Pairwise (LT r) := by
  have hp : (rowF n f').Pairwise (LT r) := by
    rw [List.pairwise_iff_getElem]
    intro i j hi hj hij
    simp only [rowF, List.getElem_map, List.getElem_range]
    exact hs i j (Nat.zero_le _) hij (by simpa [rowF] using hj)
  refine ⟨perm_of_sub _ _ ?_ (fun x hx => ?_) (by rw [rowF_len, hl]; exact Nat.le_refl _), hp⟩
  · rw [List.nodup_iff_pairwise_ne]
    exact hp.imp fun {a b} h => by
      intro e
      subst e
      exact LT.irrefl h
  · obtain ⟨i, hi, rfl⟩ := List.mem_map.1 hx
    obtain ⟨j, _, hj, e⟩ := hm.src i (Nat.zero_le _) (List.mem_range.1 hi)
    rw [e]
    exact hf j hj
set_option maxHeartbeats 2000000 in
set_option maxRecDepth 20000 in
theorem stable_mid (n : Nat) (h20 : 20 ≤ n) (h40 : n < 40) (w : World) (base g gc N : Nat) (r : Nat → Nat) (seg : List Nat) (hN : ∀ x ∈ seg, x < N) (hseg : seg.Pairwise (· < ·)) (hc : CmpOk w g gc N r) (hr : RowV w base g 3 n (ints seg)) :
    Calls Tryd.prog 71 #[.slice (some ⟨g, 0, none⟩) n n, .int .i64 (n : Int), .func (.func 49) #[] #[.pointer (some ⟨gc, 0, none⟩)]] w (SortPost w base g n r [] seg []) := by
  have hl : seg.length = n := by have := hr.1; simpa [ints] using this
  have hl1 : (seg.take 20).length = 20 := by rw [List.length_take]; omega
  have C1 : Calls Tryd.prog 91 #[.slice (some ⟨g, 0, none⟩) n n, .int .i64 0, .int .i64 20, .func (.func 49) #[] #[.pointer (some ⟨gc, 0, none⟩)]] w (SortPost w base g n r [] (seg.take 20) (seg.drop 20)) := by
    have h := insertion_any w base g gc n N r [] (seg.take 20) (seg.drop 20) (fun x hx => hN x (List.mem_of_mem_take hx)) (by omega) (hseg.sublist (List.take_sublist _ _)) hc (by simpa using hr)
    simp only [List.length_nil, Nat.zero_add, hl1] at h
    exact h
  have C2 : ∀ s1 w', s1.length = 20 → Far g w w' → RowV w' base g 3 n (ints ([] ++ s1 ++ seg.drop 20)) → Calls Tryd.prog 91 #[.slice (some ⟨g, 0, none⟩) n n, .int .i64 20, .int .i64 (n : Int), .func (.func 49) #[] #[.pointer (some ⟨gc, 0, none⟩)]] w' (SortPost w' base g n r s1 (seg.drop 20) []) := fun s1 w' h1 f h3 => by
    have h := insertion_any w' base g gc n N r s1 (seg.drop 20) [] (fun x hx => hN x (List.mem_of_mem_drop hx)) (by omega) (hseg.sublist (List.drop_sublist _ _)) (hc.far f) (by simpa using h3)
    have e : 20 + (seg.drop 20).length = n := by rw [List.length_drop]; omega
    simp only [h1, e] at h
    exact h
  have C3 : ∀ s1 s2 w', s1.Perm (seg.take 20) → s2.Perm (seg.drop 20) → s1.Pairwise (LT r) → s2.Pairwise (LT r) → Far g w w' → 20 < n → RowV w' base g 3 n (ints (s1 ++ s2 ++ [])) → Calls Tryd.prog 92 #[.slice (some ⟨g, 0, none⟩) n n, .int .i64 0, .int .i64 20, .int .i64 (n : Int), .func (.func 49) #[] #[.pointer (some ⟨gc, 0, none⟩)]] w' (SortPost w' base g n r [] seg []) := fun s1 s2 w' p1 p2 q1 q2 f h3 hr' => by
    obtain ⟨m1, m2, m3, m4, m5⟩ := merge_start hseg hl (by omega) p1 p2 q1 q2
    have hrow : RowF w' base g 3 n (fun i => (s1 ++ s2).getD i 0) := by
      unfold RowF
      have e := rowF_of (s1 ++ s2)
      rw [m1] at e
      rw [e]
      simpa using hr'
    have h := merge_all base g gc n N r (by omega) n w' 0 20 n _ (by omega) (by omega) h3 (Nat.le_refl _) m2 m3 m4 (fun k hk => hN _ (m5 k hk)) (hc.far f) hrow
    refine Calls.mono (show Calls _ _ _ _ _ from h) ?_
    rintro e w4 ⟨f', rfl, k1, k2, k3, k4⟩
    have k5 := merge_end hl m5 k1 k2
    exact ⟨rowF n f', rfl, k5.1, k5.2, by have := k3; unfold RowF at this; simpa using this, k4⟩
  have C4 : n = 20 → ∀ s1 s2 w' , s1.Perm (seg.take 20) → s2.Perm (seg.drop 20) → s1.Pairwise (LT r) → Far g w w' → RowV w' base g 3 n (ints (s1 ++ s2 ++ [])) → (s1.Perm seg ∧ RowV w' base g 3 n (ints ([] ++ s1 ++ []))) := fun h s1 s2 w' p1 p2 q f hr' => by
    have e1 : seg.take 20 = seg := List.take_of_length_le (by omega)
    have e2 : seg.drop 20 = [] := List.drop_eq_nil_of_le (by omega)
    rw [e2] at p2
    obtain rfl := p2.eq_nil
    rw [e1] at p1
    exact ⟨p1, by simpa using hr'⟩
  have C1 := Lib.hid C1
  have C2 := Lib.hid C2
  have C3 := Lib.hid C3
  have C4 := Lib.hid C4
  have HL1 := Lib.hid hl1
  have d1 : decide ((20 : Int) ≤ (n : Int)) = true := decide_eq_true (by omega)
  have d2 : decide ((40 : Int) ≤ (n : Int)) = false := decide_eq_false (by omega)
  have d3 : decide ((40 : Int) < (n : Int)) = false := decide_eq_false (by omega)
  have hn5 : (n : Int) < 40 := by omega
  have hn6 : (0 : Int) ≤ (n : Int) := by omega
  clear hN hseg hc hr hl hl1
  go_enter Tryd.func71, Tryd.ntmps71
  by_cases hn20 : n = 20
  · have d4 : decide ((20 : Int) < (n : Int)) = false := decide_eq_false (by omega)
    have C4 := Lib.hid (C4.out hn20)
    clear hn20 h20 h40
    go_wp2_with fail
    refine wp_loop_rounds 2 ?_
    rw [rounds_succ]
    go_wp2_with fail
    refine C1.out.mono ?_
    rintro e w1 ⟨s1, rfl, h1, h2, h3, h4⟩
    have HP : Hid (s1.Perm (seg.take 20) ∧ s1.Pairwise (LT r) ∧ RowV w1 base g 3 n (ints ([] ++ s1 ++ seg.drop 20)) ∧ Far g w w1) := ⟨h1, h2, h3, h4⟩
    clear h1 h2 h3 h4
    go_wp2_with fail
    rw [rounds_succ]
    go_wp2_with fail
    refine (C2.out s1 w1 (by rw [HP.out.1.length_eq]; exact HL1.out) HP.out.2.2.2 HP.out.2.2.1).mono ?_
    rintro e w2 ⟨s2, rfl, h1, h2, h3, h4⟩
    have HQ := Lib.hid (C4.out s1 s2 w2 HP.out.1 h1 HP.out.2.1 (HP.out.2.2.2.trans h4) h3)
    have HF := Lib.hid (HP.out.2.2.2.trans h4)
    clear h1 h2 h3 h4
    go_wp2_with fail
    refine wp_loop_rounds 1 ?_
    rw [rounds_succ]
    go_wp2_with fail
    go_end0
    exact ⟨s1, rfl, HQ.out.1, HP.out.2.1, HQ.out.2, HF.out⟩
  · have d4 : decide ((20 : Int) < (n : Int)) = true := decide_eq_true (by omega)
    have h3' : 20 < n := by omega
    have C3 := Lib.hid (fun s1 s2 w' a b c d e => C3.out s1 s2 w' a b c d e h3')
    clear hn20 h20 h40 C4 h3'
    go_wp2_with fail
    refine wp_loop_rounds 2 ?_
    rw [rounds_succ]
    go_wp2_with fail
    refine C1.out.mono ?_
    rintro e w1 ⟨s1, rfl, h1, h2, h3, h4⟩
    have HP : Hid (s1.Perm (seg.take 20) ∧ s1.Pairwise (LT r) ∧ RowV w1 base g 3 n (ints ([] ++ s1 ++ seg.drop 20)) ∧ Far g w w1) := ⟨h1, h2, h3, h4⟩
    clear h1 h2 h3 h4
    go_wp2_with fail
    rw [rounds_succ]
    go_wp2_with fail
    refine (C2.out s1 w1 (by rw [HP.out.1.length_eq]; exact HL1.out) HP.out.2.2.2 HP.out.2.2.1).mono ?_
    rintro e w2 ⟨s2, rfl, h1, h2, h3, h4⟩
    have HQ := Lib.hid (C3.out s1 s2 w2 HP.out.1 h1 HP.out.2.1 h2 (HP.out.2.2.2.trans h4) h3)
    have HF := Lib.hid (HP.out.2.2.2.trans h4)
    clear h1 h2 h3 h4
    go_wp2_with fail
    refine wp_loop_rounds 2 ?_
    rw [rounds_succ]
    go_wp2_with fail
    refine wp_loop_rounds 1 ?_
    rw [rounds_succ]
    go_wp2_with fail
    refine HQ.out.mono ?_
    rintro e w3 ⟨s3, rfl, h1, h2, h3, h4⟩
    have HR : Hid (s3.Perm seg ∧ s3.Pairwise (LT r) ∧ RowV w3 base g 3 n (ints ([] ++ s3 ++ [])) ∧ Far g w w3) := ⟨h1, h2, h3, HF.out.trans h4⟩
    clear h1 h2 h3 h4
    go_wp2_with fail
    rw [rounds_succ]
    go_wp2_with fail
    go_end0
    exact ⟨s3, rfl, HR.out.1, HR.out.2.1, HR.out.2.2.1, HR.out.2.2.2⟩
set_option maxHeartbeats 2000000 in
set_option maxRecDepth 20000 in
theorem stable_forty (n : Nat) (h40 : n = 40) (w : World) (base g gc N : Nat) (r : Nat → Nat) (seg : List Nat) (hN : ∀ x ∈ seg, x < N) (hseg : seg.Pairwise (· < ·)) (hc : CmpOk w g gc N r) (hr : RowV w base g 3 n (ints seg)) :
    Calls Tryd.prog 71 #[.slice (some ⟨g, 0, none⟩) n n, .int .i64 (n : Int), .func (.func 49) #[] #[.pointer (some ⟨gc, 0, none⟩)]] w (SortPost w base g n r [] seg []) := by
  have hl : seg.length = n := by have := hr.1; simpa [ints] using this
  have hl1 : (seg.take 20).length = 20 := by rw [List.length_take]; omega
  have C1 : Calls Tryd.prog 91 #[.slice (some ⟨g, 0, none⟩) n n, .int .i64 0, .int .i64 20, .func (.func 49) #[] #[.pointer (some ⟨gc, 0, none⟩)]] w (SortPost w base g n r [] (seg.take 20) (seg.drop 20)) := by
    have h := insertion_any w base g gc n N r [] (seg.take 20) (seg.drop 20) (fun x hx => hN x (List.mem_of_mem_take hx)) (by omega) (hseg.sublist (List.take_sublist _ _)) hc (by simpa using hr)
    simp only [List.length_nil, Nat.zero_add, hl1] at h
    exact h
  have C2 : ∀ s1 w', s1.length = 20 → Far g w w' → RowV w' base g 3 n (ints ([] ++ s1 ++ seg.drop 20)) → Calls Tryd.prog 91 #[.slice (some ⟨g, 0, none⟩) n n, .int .i64 20, .int .i64 (n : Int), .func (.func 49) #[] #[.pointer (some ⟨gc, 0, none⟩)]] w' (SortPost w' base g n r s1 (seg.drop 20) []) := fun s1 w' h1 f h3 => by
    have h := insertion_any w' base g gc n N r s1 (seg.drop 20) [] (fun x hx => hN x (List.mem_of_mem_drop hx)) (by omega) (hseg.sublist (List.drop_sublist _ _)) (hc.far f) (by simpa using h3)
    have e : 20 + (seg.drop 20).length = n := by rw [List.length_drop]; omega
    simp only [h1, e] at h
    exact h
  have C3 : ∀ s1 s2 w', s1.Perm (seg.take 20) → s2.Perm (seg.drop 20) → s1.Pairwise (LT r) → s2.Pairwise (LT r) → Far g w w' → 20 < n → RowV w' base g 3 n (ints (s1 ++ s2 ++ [])) → Calls Tryd.prog 92 #[.slice (some ⟨g, 0, none⟩) n n, .int .i64 0, .int .i64 20, .int .i64 (n : Int), .func (.func 49) #[] #[.pointer (some ⟨gc, 0, none⟩)]] w' (SortPost w' base g n r [] seg []) := fun s1 s2 w' p1 p2 q1 q2 f h3 hr' => by
    obtain ⟨m1, m2, m3, m4, m5⟩ := merge_start hseg hl (by omega) p1 p2 q1 q2
    have hrow : RowF w' base g 3 n (fun i => (s1 ++ s2).getD i 0) := by
      unfold RowF
      have e := rowF_of (s1 ++ s2)
      rw [m1] at e
      rw [e]
      simpa using hr'
    have h := merge_all base g gc n N r (by omega) n w' 0 20 n _ (by omega) (by omega) h3 (Nat.le_refl _) m2 m3 m4 (fun k hk => hN _ (m5 k hk)) (hc.far f) hrow
    refine Calls.mono (show Calls _ _ _ _ _ from h) ?_
    rintro e w4 ⟨f', rfl, k1, k2, k3, k4⟩
    have k5 := merge_end hl m5 k1 k2
    exact ⟨rowF n f', rfl, k5.1, k5.2, by have := k3; unfold RowF at this; simpa using this, k4⟩
  have C5 : ∀ s1 s2 w', s2.length = 20 → s1.length = 20 → Far g w w' → RowV w' base g 3 n (ints (s1 ++ s2 ++ [])) → Calls Tryd.prog 91 #[.slice (some ⟨g, 0, none⟩) n n, .int .i64 40, .int .i64 (n : Int), .func (.func 49) #[] #[.pointer (some ⟨gc, 0, none⟩)]] w' (fun e w'' => e = .returned (.tuple #[]) ∧ RowV w'' base g 3 n (ints (s1 ++ s2 ++ [])) ∧ Far g w' w'') := fun s1 s2 w' g1 g2 f h3 => by
    have h := insertion_any w' base g gc n N r (s1 ++ s2) [] [] (fun x hx => by cases hx) (by omega) List.Pairwise.nil (hc.far f) (by simpa using h3)
    have e : (s1 ++ s2).length = 40 := by rw [List.length_append]; omega
    simp only [List.length_nil, Nat.add_zero, e] at h
    subst h40
    refine Calls.mono (show Calls _ _ _ _ _ from h) ?_
    rintro e w4 ⟨s', rfl, k1, k2, k3, k4⟩
    obtain rfl := k1.eq_nil
    exact ⟨rfl, by simpa using k3, k4⟩
  have h3' : 20 < n := by omega
  have hl2 : (seg.drop 20).length = 20 := by rw [List.length_drop]; omega
  have C1 := Lib.hid C1
  have C2 := Lib.hid C2
  have C3 := Lib.hid (fun s1 s2 w' a b c d e => C3 s1 s2 w' a b c d e h3')
  have C5 := Lib.hid C5
  have HL1 := Lib.hid hl1
  have HL2 := Lib.hid hl2
  subst h40
  clear hN hseg hc hr hl hl1 hl2 h3'
  go_enter Tryd.func71, Tryd.ntmps71
  go_wp2_with fail
  refine wp_loop_rounds 3 ?_
  rw [rounds_succ]
  go_wp2_with fail
  refine C1.out.mono ?_
  rintro e w1 ⟨s1, rfl, h1, h2, h3, h4⟩
  have HP : Hid (s1.Perm (seg.take 20) ∧ s1.Pairwise (LT r) ∧ RowV w1 base g 3 40 (ints ([] ++ s1 ++ seg.drop 20)) ∧ Far g w w1) := ⟨h1, h2, h3, h4⟩
  clear h1 h2 h3 h4
  go_wp2_with fail
  rw [rounds_succ]
  go_wp2_with fail
  refine (C2.out s1 w1 (by rw [HP.out.1.length_eq]; exact HL1.out) HP.out.2.2.2 HP.out.2.2.1).mono ?_
  rintro e w2 ⟨s2, rfl, h1, h2, h3, h4⟩
  have HP2 : Hid (s2.Perm (seg.drop 20) ∧ s2.Pairwise (LT r) ∧ RowV w2 base g 3 40 (ints (s1 ++ s2 ++ [])) ∧ Far g w w2) := ⟨h1, h2, h3, HP.out.2.2.2.trans h4⟩
  clear h1 h2 h3 h4
  go_wp2_with fail
  rw [rounds_succ]
  go_wp2_with fail
  refine (C5.out s1 s2 w2 (by rw [HP2.out.1.length_eq]; exact HL2.out) (by rw [HP.out.1.length_eq]; exact HL1.out) HP2.out.2.2.2 HP2.out.2.2.1).mono ?_
  rintro e w3 ⟨rfl, h3, h4⟩
  have HQ := Lib.hid (C3.out s1 s2 w3 HP.out.1 HP2.out.1 HP.out.2.1 HP2.out.2.1 (HP2.out.2.2.2.trans h4) h3)
  have HF := Lib.hid (HP2.out.2.2.2.trans h4)
  clear h3 h4
  go_wp2_with fail
  refine wp_loop_rounds 2 ?_
  rw [rounds_succ]
  go_wp2_with fail
  refine wp_loop_rounds 2 ?_
  rw [rounds_succ]
  go_wp2_with fail
  refine HQ.out.mono ?_
  rintro e w4 ⟨s3, rfl, h1, h2, h3, h4⟩
  have HR : Hid (s3.Perm seg ∧ s3.Pairwise (LT r) ∧ RowV w4 base g 3 40 (ints ([] ++ s3 ++ [])) ∧ Far g w w4) := ⟨h1, h2, h3, HF.out.trans h4⟩
  clear h1 h2 h3 h4
  go_wp2_with fail
  rw [rounds_succ]
  go_wp2_with fail
  rw [rounds_succ]
  go_wp2_with fail
  go_end0
  exact ⟨s3, rfl, HR.out.1, HR.out.2.1, HR.out.2.2.1, HR.out.2.2.2⟩
theorem sorts_all (n : Nat) (hn : n ≤ 40) : SortsAt n := by
  by_cases c : n < 20
  · exact sorts_small n c
  intro w base g gc N r seg hN hseg hc hr
  have CI : Calls Tryd.prog 71 #[.slice (some ⟨g, 0, none⟩) n n, .int .i64 (n : Int), .func (.func 49) #[] #[.pointer (some ⟨gc, 0, none⟩)]] w (SortPost w base g n r [] seg []) := by
    by_cases c2 : n < 40
    · exact stable_mid n (by omega) c2 w base g gc N r seg hN hseg hc hr
    · exact stable_forty n (by omega) w base g gc N r seg hN hseg hc hr
  have CI := Lib.hid CI
  clear hN hseg hc hr
  go_enter Tryd.func48, Tryd.ntmps48
  go_wp2_with fail
  refine CI.out.mono ?_
  rintro e w1 ⟨seg', rfl, h1, h2, h3, h4⟩
  have HP : Hid (seg'.Perm seg ∧ seg'.Pairwise (LT r) ∧ RowV w1 base g 3 n (ints ([] ++ seg' ++ [])) ∧ Far g w w1) := ⟨h1, h2, h3, h4⟩
  clear h1 h2 h3 h4
  go_wp2_with fail
  go_end0
  exact ⟨seg', rfl, HP.out.1, HP.out.2.1, HP.out.2.2.1, HP.out.2.2.2⟩
end So
end Go.Proofs.YtfopmaeaclbknaaDoor
