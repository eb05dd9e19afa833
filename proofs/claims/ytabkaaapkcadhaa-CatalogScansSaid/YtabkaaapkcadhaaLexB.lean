/- Contract of the reference's One. -/
import Derived.Test.YtabkaaapkcadhaaLexA
import Derived.Test.YtabkaaapkcadhaaLex5
namespace Go.Proofs.Ytabkaaapkcadhaa
open Go.ChangeShapes Go.WideShapes Go.ChangeAt Go.RowKit
namespace Lex
/-- what One comes to -/
def OneR (l : List UInt8) (t : ByteArray) (w : World) (e : Ending) (w' : World) : Prop :=
  (match one l with
    | .ok p => e = .returned (.tuple #[.agg #[.int .i64 (p.kind : Int), .string (t.extract 0 p.len), .int .i64 (p.value : Int), .int .i64 0], .int .i64 0])
    | .error x => e = .returned (.tuple #[.agg #[.int .i64 0, .string ⟨#[]⟩, .int .i64 0, .int .i64 0], .int .i64 x])) ∧ Below w.heap.size w w'
theorem toList_cons (t : ByteArray) (h : 0 < t.size) : t.data.toList = t[0] :: t.data.toList.drop 1 := by
  have := drop_cons t 0 h
  simpa using this
theorem blk_result {x : Int} {w' : World} {tmps : Array Value} {c0 c1 c2 c3 : Value} {g : Nat} {fn : Func} {p u : Tmp}
    (h : fn.results = #[.cell p 34, .tmp u]) (hp : tmps.getD p undef = .pointer (some ⟨g, 0, none⟩)) (hx : tmps.getD u undef = .int .i64 x)
    (hg : Blk w' g 34 #[c0, c1, c2, c3]) : (results fn tmps).run Try.prog w' = .ok (.tuple #[.agg #[c0, c1, c2, c3], .int .i64 x]) w' :=
  results_blk_tmp h hp hg Try.underlying34 rfl (by kernel_rfl) hx
theorem refOne_let (t : ByteArray) (w : World) (hs : t.size ≤ maxLen) (ht : 0 < t.size) (hl : isLet t[0] = true) :
    Calls Try.prog 62 #[.string t] w (OneR t.data.toList t w) := by
  have hone : one t.data.toList = if 12 < runLen isInn t 0 then .error 3 else .ok ⟨1, runLen isInn t 0, 0⟩ := by
    have h1 : runLen isInn t 0 = span isInn (t.data.toList.drop 1) + 1 := by
      unfold runLen
      rw [drop_cons t 0 ht, span_cons (inn_of_let hl)]
    rw [h1]
    have h2 := toList_cons t ht
    generalize t.data.toList.drop 1 = l at *
    rw [h2]
    simp only [one, if_pos hl]
  have hle := runLen_le isInn t 0 (by omega)
  have h1 : runLen isInn t 0 = 1 + runLen isInn t 1 := (runLen_yes isInn t 0 ht (inn_of_let hl)).trans (Nat.add_comm _ _)
  have HO := Lib.hid hone
  have H1 := Lib.hid h1
  have RY := Lib.hid (runLen_yes isInn t)
  have RN := Lib.hid (runLen_no isInn t)
  have RE := Lib.hid (runLen_end isInn t)
  have RL := Lib.hid (runLen_le isInn t)
  clear hone h1
  unfold maxLen at hs
  have CL := Lib.hid rletter_any
  have CD := Lib.hid rdigit_any
  go_enter Try.func62, Try.ntmps62
  go_wp2_with (go_at_call 66; refine (CL.out _ _).mono ?_; rintro e w' ⟨rfl, rfl⟩; rw [hl])
  go_loop [4] (fun n => ∃ k : Nat, 1 ≤ k ∧ k ≤ t.size ∧ n = .int .i64 (k : Int) ∧ Hid (runLen isInn t 0 = k + runLen isInn t k)) (fun n => t.size - (intOf n).toNat)
  case atStart => exact ⟨1, by omega, by omega, rfl, H1⟩
  case round =>
    obtain ⟨k, hk1, hk, rfl, HR⟩ := hrel
    by_cases hlt : k < t.size
    · have hd : decide ((k : Int) < (t.size : Int)) = true := by simp; omega
      cases hp : isInn t[k] with
      | true =>
        have HR2 : Hid (runLen isInn t 0 = (k + 1) + runLen isInn t (k + 1)) := by
          have e1 := HR.out
          rw [RY.out k hlt hp] at e1
          show _ = _
          omega
        cases h2 : isLet t[k] with
        | true =>
          clear hp
          go_wp2_with (go_at_call 66; refine (CL.out _ _).mono ?_; rintro e w' ⟨rfl, rfl⟩; rw [h2])
          go_round
          case rel => exact ⟨k + 1, by omega, by omega, by go_num, HR2⟩
          case measure => simp [intOf]; omega
        | false =>
          cases h3 : isDig t[k] with
          | true =>
            clear hp
            go_wp2_with (first | (go_at_call 66; refine (CL.out _ _).mono ?_; rintro e w' ⟨rfl, rfl⟩; rw [h2]) | (go_at_call 88; refine (CD.out _ _).mono ?_; rintro e w' ⟨rfl, rfl⟩; rw [h3]))
            go_round
            case rel => exact ⟨k + 1, by omega, by omega, by go_num, HR2⟩
            case measure => simp [intOf]; omega
          | false =>
            have h95 : ((t[k].toNat : Int) == 95) = true := by
              simp [isInn, h2, h3] at hp
              simp; omega
            clear hp
            go_wp2_with (first | (go_at_call 66; refine (CL.out _ _).mono ?_; rintro e w' ⟨rfl, rfl⟩; rw [h2]) | (go_at_call 88; refine (CD.out _ _).mono ?_; rintro e w' ⟨rfl, rfl⟩; rw [h3]))
            go_round
            case rel => exact ⟨k + 1, by omega, by omega, by go_num, HR2⟩
            case measure => simp [intOf]; omega
      | false =>
        have h2 : isLet t[k] = false := by simp [isInn] at hp; exact hp.1
        have h3 : isDig t[k] = false := by simp [isInn] at hp; exact hp.2.1
        have h95 : ((t[k].toNat : Int) == 95) = false := by simp [isInn] at hp; simp; omega
        have hrk := RN.out k hlt hp
        have HK : Hid (runLen isInn t 0 = k) := by
          have e1 := HR.out
          show _ = _
          omega
        clear hp hrk
        by_cases h12 : 12 < k
        · have hd12 : decide ((12 : Int) < (k : Int)) = true := by simp; omega
          go_wp2_with (first | (go_at_call 66; refine (CL.out _ _).mono ?_; rintro e w' ⟨rfl, rfl⟩; rw [h2]) | (go_at_call 88; refine (CD.out _ _).mono ?_; rintro e w' ⟨rfl, rfl⟩; rw [h3]))
          refine bodyPost_ret (v := .tuple #[.agg #[.int .i64 0, .string ⟨#[]⟩, .int .i64 0, .int .i64 0], .int .i64 3]) (blk_result rfl rfl rfl (Blk.new _ _ _)) rfl ⟨?_, below_new _ _⟩
          rw [HO.out, HK.out, if_pos h12]
        · have hd12 : decide ((12 : Int) < (k : Int)) = false := by simp; omega
          go_wp2_with (first | (go_at_call 66; refine (CL.out _ _).mono ?_; rintro e w' ⟨rfl, rfl⟩; rw [h2]) | (go_at_call 88; refine (CD.out _ _).mono ?_; rintro e w' ⟨rfl, rfl⟩; rw [h3]))
          refine bodyPost_ret (v := .tuple #[.agg #[.int .i64 1, .string (t.extract 0 k), .int .i64 0, .int .i64 0], .int .i64 0]) (blk_result rfl rfl rfl (Blk.new _ _ _)) rfl ⟨?_, below_new _ _⟩
          rw [HO.out, HK.out, if_neg h12]
          rfl
    · have hd : decide ((k : Int) < (t.size : Int)) = false := by simp; omega
      have HK : Hid (runLen isInn t 0 = k) := by
        have e1 := HR.out
        have e2 := RE.out k (by omega)
        show _ = _
        omega
      by_cases h12 : 12 < k
      · have hd12 : decide ((12 : Int) < (k : Int)) = true := by simp; omega
        go_wp2_with fail
        refine bodyPost_ret (v := .tuple #[.agg #[.int .i64 0, .string ⟨#[]⟩, .int .i64 0, .int .i64 0], .int .i64 3]) (blk_result rfl rfl rfl (Blk.new _ _ _)) rfl ⟨?_, below_new _ _⟩
        rw [HO.out, HK.out, if_pos h12]
      · have hd12 : decide ((12 : Int) < (k : Int)) = false := by simp; omega
        go_wp2_with fail
        refine bodyPost_ret (v := .tuple #[.agg #[.int .i64 1, .string (t.extract 0 k), .int .i64 0, .int .i64 0], .int .i64 0]) (blk_result rfl rfl rfl (Blk.new _ _ _)) rfl ⟨?_, below_new _ _⟩
        rw [HO.out, HK.out, if_neg h12]
        rfl

theorem valT_part (t : ByteArray) (n : Nat) (hd : ∀ k (h : k < t.size), k < n → isDig t[k] = true) (hn : n ≤ t.size) : ∀ k, k ≤ n → valT t k + 1 ≤ 10 ^ k
  | 0, _ => by simp [valT, val]
  | k + 1, h => by
    have h1 := valT_part t n hd hn k (by omega)
    rw [valT_snoc t k (by omega), Nat.pow_succ]
    have h2 := dig_le (hd k (by omega) (by omega))
    omega
set_option maxHeartbeats 1600000 in
theorem refOne_dig (t : ByteArray) (w : World) (hs : t.size ≤ maxLen) (ht : 0 < t.size) (hl : isLet t[0] = false) (hg : isDig t[0] = true) :
    Calls Try.prog 62 #[.string t] w (OneR t.data.toList t w) := by
  have hone : one t.data.toList = if 1 < runLen isDig t 0 ∧ t[0].toNat = 48 then .error 2 else if 9 < runLen isDig t 0 then .error 4 else .ok ⟨2, runLen isDig t 0, valT t (runLen isDig t 0)⟩ := by
    have h1 : runLen isDig t 0 = span isDig (t.data.toList.drop 1) + 1 := by
      unfold runLen
      rw [drop_cons t 0 ht, span_cons hg]
    rw [h1]
    unfold valT
    have h2 := toList_cons t ht
    generalize t.data.toList.drop 1 = l at *
    rw [h2]
    simp only [one, if_neg (show ¬ isLet t[0] = true by simp [hl]), if_pos hg]
  have hle := runLen_le isDig t 0 (by omega)
  have hdg : ∀ k (h : k < t.size), k < runLen isDig t 0 → isDig t[k] = true := fun k h hk => span_all isDig t.data.toList k hk (by exact h)
  have hvt : ∀ k, k ≤ runLen isDig t 0 → runLen isDig t 0 ≤ 9 → valT t k < 1000000000 := fun k hk h9 => by
    have h1 := valT_part t (runLen isDig t 0) hdg (by omega) k hk
    have h2 : 10 ^ k ≤ 10 ^ 9 := Nat.pow_le_pow_right (by omega) (by omega)
    omega
  have HO := Lib.hid hone
  have VT := Lib.hid hvt
  have HD := Lib.hid hdg
  have VN := Lib.hid (valT_snoc t)
  have H1 : Hid (runLen isDig t 0 = 1 + runLen isDig t 1) := (runLen_yes isDig t 0 ht hg).trans (Nat.add_comm _ _)
  have RY := Lib.hid (runLen_yes isDig t)
  have RN := Lib.hid (runLen_no isDig t)
  have RE := Lib.hid (runLen_end isDig t)
  clear hone hvt hdg
  unfold maxLen at hs
  have CL := Lib.hid rletter_any
  have CD := Lib.hid rdigit_any
  go_enter Try.func62, Try.ntmps62
  go_wp2_with (first | (go_at_call 66; refine (CL.out _ _).mono ?_; rintro e w' ⟨rfl, rfl⟩; rw [hl]) | (go_at_call 88; refine (CD.out _ _).mono ?_; rintro e w' ⟨rfl, rfl⟩; rw [hg]))
  go_loop [4] (fun n => ∃ k : Nat, 1 ≤ k ∧ k ≤ t.size ∧ n = .int .i64 (k : Int) ∧ Hid (runLen isDig t 0 = k + runLen isDig t k)) (fun n => t.size - (intOf n).toNat)
  case atStart => exact ⟨1, by omega, by omega, rfl, H1⟩
  case round =>
    obtain ⟨k, hk1, hk, rfl, HR⟩ := hrel
    by_cases hlt : k < t.size
    · have hd : decide ((k : Int) < (t.size : Int)) = true := by simp; omega
      cases hp : isDig t[k] with
      | true =>
        have HR2 : Hid (runLen isDig t 0 = (k + 1) + runLen isDig t (k + 1)) := by
          have e1 := HR.out
          rw [RY.out k hlt hp] at e1
          show _ = _
          omega
        go_wp2_with (go_at_call 88; refine (CD.out _ _).mono ?_; rintro e w' ⟨rfl, rfl⟩; rw [hp])
        go_round
        case rel => exact ⟨k + 1, by omega, by omega, by go_num, HR2⟩
        case measure => simp [intOf]; omega
      | false =>
        have hrk := RN.out k hlt hp
        have HK : Hid (runLen isDig t 0 = k) := by
          have e1 := HR.out
          show _ = _
          omega
        clear hrk
        have VS := Lib.hid (fun j (hj : j ≤ k) (h9 : k ≤ 9) => VT.out j (by rw [HK.out]; exact hj) (by rw [HK.out]; exact h9))
        by_cases h1 : 1 < k
        · have hd1 : decide ((1 : Int) < (k : Int)) = true := by simp; omega
          by_cases h48 : t[0].toNat = 48
          · have hz : ((t[0].toNat : Int) == 48) = true := by simp; omega
            go_wp2_with (go_at_call 88; refine (CD.out _ _).mono ?_; rintro e w' ⟨rfl, rfl⟩; rw [hp])
            refine bodyPost_ret (v := .tuple #[.agg #[.int .i64 0, .string ⟨#[]⟩, .int .i64 0, .int .i64 0], .int .i64 2]) (blk_result rfl rfl rfl (Blk.new _ _ _)) rfl ⟨?_, below_new _ _⟩
            rw [HO.out, HK.out, if_pos ⟨h1, h48⟩]

          · have hz : ((t[0].toNat : Int) == 48) = false := by simp; omega
            have HN1 : Hid (¬ (1 < k ∧ t[0].toNat = 48)) := fun h => h48 h.2
            by_cases h9 : 9 < k
            · have hd9 : decide ((9 : Int) < (k : Int)) = true := by simp; omega
              go_wp2_with (go_at_call 88; refine (CD.out _ _).mono ?_; rintro e w' ⟨rfl, rfl⟩; rw [hp])
              refine bodyPost_ret (v := .tuple #[.agg #[.int .i64 0, .string ⟨#[]⟩, .int .i64 0, .int .i64 0], .int .i64 4]) (blk_result rfl rfl rfl (Blk.new _ _ _)) rfl ⟨?_, below_new _ _⟩
              rw [HO.out, HK.out, if_neg HN1.out, if_pos h9]

            · have hd9 : decide ((9 : Int) < (k : Int)) = false := by simp; omega
              have VS := Lib.hid (fun j (hj : j ≤ k) => VS.out j hj (by omega))
              clear h48
              go_wp2_with (go_at_call 88; refine (CD.out _ _).mono ?_; rintro e w' ⟨rfl, rfl⟩; rw [hp])
              go_loop [5, 6] (fun v i => ∃ j : Nat, j ≤ k ∧ i = .int .i64 (j : Int) ∧ v = .int .i64 (valT t j : Nat)) (fun _ i => k - (intOf i).toNat)
              case atStart => exact ⟨0, by omega, rfl, rfl⟩
              case round =>
                obtain ⟨j, hj, rfl, rfl⟩ := hrel
                by_cases hjt : j < k
                · have hd2 : decide ((j : Int) < (k : Int)) = true := by simp; omega
                  have hjs : j < t.size := by omega
                  have hv := VS.out j hj
                  have hb := dig_le (HD.out j hjs (by have := HK.out; omega))
                  have hx : ((t[j].toNat : Int) - 48) % 256 = (t[j].toNat : Int) - 48 := by omega
                  go_wp2_with fail
                  go_round
                  case rel => exact ⟨j + 1, by omega, by go_num, by rw [VN.out j hjs]; go_num⟩
                  case measure => simp [intOf]; omega
                · obtain rfl : j = k := by omega
                  have hd2 : decide ((j : Int) < (j : Int)) = false := by simp
                  go_wp2_with fail
                  refine bodyPost_ret (v := .tuple #[.agg #[.int .i64 2, .string (t.extract 0 j), .int .i64 (valT t j : Nat), .int .i64 0], .int .i64 0]) (blk_result rfl rfl rfl (Blk.new _ _ _)) rfl ⟨?_, below_new _ _⟩
                  rw [HO.out, HK.out, if_neg HN1.out, if_neg h9]
                  rfl

        · have hd1 : decide ((1 : Int) < (k : Int)) = false := by simp; omega
          have HN1 : Hid (¬ (1 < k ∧ t[0].toNat = 48)) := fun h => h1 h.1
          have h9 : ¬ 9 < k := by omega
          have hd9 : decide ((9 : Int) < (k : Int)) = false := by simp; omega
          have VS := Lib.hid (fun j (hj : j ≤ k) => VS.out j hj (by omega))
          go_wp2_with (go_at_call 88; refine (CD.out _ _).mono ?_; rintro e w' ⟨rfl, rfl⟩; rw [hp])
          go_loop [5, 6] (fun v i => ∃ j : Nat, j ≤ k ∧ i = .int .i64 (j : Int) ∧ v = .int .i64 (valT t j : Nat)) (fun _ i => k - (intOf i).toNat)
          case atStart => exact ⟨0, by omega, rfl, rfl⟩
          case round =>
            obtain ⟨j, hj, rfl, rfl⟩ := hrel
            by_cases hjt : j < k
            · have hd2 : decide ((j : Int) < (k : Int)) = true := by simp; omega
              have hjs : j < t.size := by omega
              have hv := VS.out j hj
              have hb := dig_le (HD.out j hjs (by have := HK.out; omega))
              have hx : ((t[j].toNat : Int) - 48) % 256 = (t[j].toNat : Int) - 48 := by omega
              go_wp2_with fail
              go_round
              case rel => exact ⟨j + 1, by omega, by go_num, by rw [VN.out j hjs]; go_num⟩
              case measure => simp [intOf]; omega
            · obtain rfl : j = k := by omega
              have hd2 : decide ((j : Int) < (j : Int)) = false := by simp
              go_wp2_with fail
              refine bodyPost_ret (v := .tuple #[.agg #[.int .i64 2, .string (t.extract 0 j), .int .i64 (valT t j : Nat), .int .i64 0], .int .i64 0]) (blk_result rfl rfl rfl (Blk.new _ _ _)) rfl ⟨?_, below_new _ _⟩
              rw [HO.out, HK.out, if_neg HN1.out, if_neg h9]
              rfl

    · have hd : decide ((k : Int) < (t.size : Int)) = false := by simp; omega
      have HK : Hid (runLen isDig t 0 = k) := by
        have e1 := HR.out
        have e2 := RE.out k (by omega)
        show _ = _
        omega
      have VS := Lib.hid (fun j (hj : j ≤ k) (h9 : k ≤ 9) => VT.out j (by rw [HK.out]; exact hj) (by rw [HK.out]; exact h9))
      by_cases h1 : 1 < k
      · have hd1 : decide ((1 : Int) < (k : Int)) = true := by simp; omega
        by_cases h48 : t[0].toNat = 48
        · have hz : ((t[0].toNat : Int) == 48) = true := by simp; omega
          go_wp2_with fail
          refine bodyPost_ret (v := .tuple #[.agg #[.int .i64 0, .string ⟨#[]⟩, .int .i64 0, .int .i64 0], .int .i64 2]) (blk_result rfl rfl rfl (Blk.new _ _ _)) rfl ⟨?_, below_new _ _⟩
          rw [HO.out, HK.out, if_pos ⟨h1, h48⟩]

        · have hz : ((t[0].toNat : Int) == 48) = false := by simp; omega
          have HN1 : Hid (¬ (1 < k ∧ t[0].toNat = 48)) := fun h => h48 h.2
          by_cases h9 : 9 < k
          · have hd9 : decide ((9 : Int) < (k : Int)) = true := by simp; omega
            go_wp2_with fail
            refine bodyPost_ret (v := .tuple #[.agg #[.int .i64 0, .string ⟨#[]⟩, .int .i64 0, .int .i64 0], .int .i64 4]) (blk_result rfl rfl rfl (Blk.new _ _ _)) rfl ⟨?_, below_new _ _⟩
            rw [HO.out, HK.out, if_neg HN1.out, if_pos h9]

          · have hd9 : decide ((9 : Int) < (k : Int)) = false := by simp; omega
            have VS := Lib.hid (fun j (hj : j ≤ k) => VS.out j hj (by omega))
            clear h48
            go_wp2_with fail
            go_loop [5, 6] (fun v i => ∃ j : Nat, j ≤ k ∧ i = .int .i64 (j : Int) ∧ v = .int .i64 (valT t j : Nat)) (fun _ i => k - (intOf i).toNat)
            case atStart => exact ⟨0, by omega, rfl, rfl⟩
            case round =>
              obtain ⟨j, hj, rfl, rfl⟩ := hrel
              by_cases hjt : j < k
              · have hd2 : decide ((j : Int) < (k : Int)) = true := by simp; omega
                have hjs : j < t.size := by omega
                have hv := VS.out j hj
                have hb := dig_le (HD.out j hjs (by have := HK.out; omega))
                have hx : ((t[j].toNat : Int) - 48) % 256 = (t[j].toNat : Int) - 48 := by omega
                go_wp2_with fail
                go_round
                case rel => exact ⟨j + 1, by omega, by go_num, by rw [VN.out j hjs]; go_num⟩
                case measure => simp [intOf]; omega
              · obtain rfl : j = k := by omega
                have hd2 : decide ((j : Int) < (j : Int)) = false := by simp
                go_wp2_with fail
                refine bodyPost_ret (v := .tuple #[.agg #[.int .i64 2, .string (t.extract 0 j), .int .i64 (valT t j : Nat), .int .i64 0], .int .i64 0]) (blk_result rfl rfl rfl (Blk.new _ _ _)) rfl ⟨?_, below_new _ _⟩
                rw [HO.out, HK.out, if_neg HN1.out, if_neg h9]
                rfl

      · have hd1 : decide ((1 : Int) < (k : Int)) = false := by simp; omega
        have HN1 : Hid (¬ (1 < k ∧ t[0].toNat = 48)) := fun h => h1 h.1
        have h9 : ¬ 9 < k := by omega
        have hd9 : decide ((9 : Int) < (k : Int)) = false := by simp; omega
        have VS := Lib.hid (fun j (hj : j ≤ k) => VS.out j hj (by omega))
        go_wp2_with fail
        go_loop [5, 6] (fun v i => ∃ j : Nat, j ≤ k ∧ i = .int .i64 (j : Int) ∧ v = .int .i64 (valT t j : Nat)) (fun _ i => k - (intOf i).toNat)
        case atStart => exact ⟨0, by omega, rfl, rfl⟩
        case round =>
          obtain ⟨j, hj, rfl, rfl⟩ := hrel
          by_cases hjt : j < k
          · have hd2 : decide ((j : Int) < (k : Int)) = true := by simp; omega
            have hjs : j < t.size := by omega
            have hv := VS.out j hj
            have hb := dig_le (HD.out j hjs (by have := HK.out; omega))
            have hx : ((t[j].toNat : Int) - 48) % 256 = (t[j].toNat : Int) - 48 := by omega
            go_wp2_with fail
            go_round
            case rel => exact ⟨j + 1, by omega, by go_num, by rw [VN.out j hjs]; go_num⟩
            case measure => simp [intOf]; omega
          · obtain rfl : j = k := by omega
            have hd2 : decide ((j : Int) < (j : Int)) = false := by simp
            go_wp2_with fail
            refine bodyPost_ret (v := .tuple #[.agg #[.int .i64 2, .string (t.extract 0 j), .int .i64 (valT t j : Nat), .int .i64 0], .int .i64 0]) (blk_result rfl rfl rfl (Blk.new _ _ _)) rfl ⟨?_, below_new _ _⟩
            rw [HO.out, HK.out, if_neg HN1.out, if_neg h9]
            rfl

theorem refOne_mark (t : ByteArray) (w : World) (hs : t.size ≤ maxLen) (ht : 0 < t.size) (hl : isLet t[0] = false) (hg : isDig t[0] = false) :
    Calls Try.prog 62 #[.string t] w (OneR t.data.toList t w) := by
  have hone : one t.data.toList = if isMark t[0] then .ok ⟨3, 1, 0⟩ else .error 2 := by
    have h2 := toList_cons t ht
    generalize t.data.toList.drop 1 = l at *
    rw [h2]
    simp only [one, if_neg (show ¬ isLet t[0] = true by simp [hl]), if_neg (show ¬ isDig t[0] = true by simp [hg])]
  have HO := Lib.hid hone
  clear hone
  unfold maxLen at hs
  have CL := Lib.hid rletter_any
  have CD := Lib.hid rdigit_any
  have CM := Lib.hid rmark_any
  cases hm : isMark t[0] with
  | true =>
    have HM := Lib.hid hm
    clear hm
    go_enter Try.func62, Try.ntmps62
    go_wp2_with (first | (go_at_call 66; refine (CL.out _ _).mono ?_; rintro e w' ⟨rfl, rfl⟩; rw [hl]) | (go_at_call 88; refine (CD.out _ _).mono ?_; rintro e w' ⟨rfl, rfl⟩; rw [hg]) | (go_at_call 89; refine (CM.out _ _).mono ?_; rintro e w' ⟨rfl, rfl⟩; rw [HM.out]))
    refine bodyPost_ret (v := .tuple #[.agg #[.int .i64 3, .string (t.extract 0 1), .int .i64 0, .int .i64 0], .int .i64 0]) (blk_result rfl rfl rfl (Blk.new _ _ _)) rfl ⟨?_, below_new _ _⟩
    rw [HO.out, if_pos HM.out]
    rfl
  | false =>
    have HM := Lib.hid hm
    clear hm
    go_enter Try.func62, Try.ntmps62
    go_wp2_with (first | (go_at_call 66; refine (CL.out _ _).mono ?_; rintro e w' ⟨rfl, rfl⟩; rw [hl]) | (go_at_call 88; refine (CD.out _ _).mono ?_; rintro e w' ⟨rfl, rfl⟩; rw [hg]) | (go_at_call 89; refine (CM.out _ _).mono ?_; rintro e w' ⟨rfl, rfl⟩; rw [HM.out]))
    refine bodyPost_ret (v := .tuple #[.agg #[.int .i64 0, .string ⟨#[]⟩, .int .i64 0, .int .i64 0], .int .i64 2]) (blk_result rfl rfl rfl (Blk.new _ _ _)) rfl ⟨?_, below_new _ _⟩
    rw [HO.out, if_neg (by rw [HM.out]; exact Bool.false_ne_true)]
theorem refOne_any (t : ByteArray) (w : World) (hs : t.size ≤ maxLen) (ht : 0 < t.size) : Calls Try.prog 62 #[.string t] w (OneR t.data.toList t w) := by
  cases hl : isLet t[0] with
  | true => exact refOne_let t w hs ht hl
  | false =>
    cases hg : isDig t[0] with
    | true => exact refOne_dig t w hs ht hl hg
    | false => exact refOne_mark t w hs ht hl hg
end Lex
end Go.Proofs.Ytabkaaapkcadhaa
