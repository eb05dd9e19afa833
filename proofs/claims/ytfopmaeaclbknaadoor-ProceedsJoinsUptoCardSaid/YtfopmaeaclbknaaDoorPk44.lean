/- The law ProceedsDivides: walk. Printed by gen_prj.py. The sums of what Divide answers: the sellers' reserves add up to the invoices' reserves, all shares to the revenue, none is negative. The law ProceedsAdd: walk. Printed by gen_prl.py. -/
import Derived.Test.YtfopmaeaclbknaaDoorPk42
namespace Go.Proofs.YtfopmaeaclbknaaDoor.Pr
open Go.ChangeShapes Go.WideShapes Go.ChangeAt Go.RowKit Go.Maps Go.WideMaps Gn Cat Lex So
set_option linter.unusedVariables false
set_option linter.unusedSimpArgs false
set_option maxHeartbeats 4000000
/-- what Divide answers, both ways -/
def okD : Except Int (List Shr) → List Shr
  | .ok L => L
  | .error _ => []
def errD : Except Int (List Shr) → Int
  | .ok _ => 0
  | .error x => x
def BothPost (L : List Shr) (x : Int) (w : World) (e : Ending) (w' : World) : Prop := ∃ v', e = .returned (.tuple #[v', .int .i64 x]) ∧ ShrS w' v' L ∧ Below w.heap.size w w'
theorem divPost_both {R : Except Int (List Shr)} {w : World} {e : Ending} {w' : World} (h : DivPost R w e w') : BothPost (okD R) (errD R) w e w' := by
  cases R with
  | ok L => exact h
  | error x => exact ⟨_, h.1, Sl.nil w' 3, h.2⟩
theorem okD_len (ps : List Prod) (nb : Nat) (l : List Sel) (vs : List Inv) : (okD (divR ps nb l vs)).length ≤ l.length := by
  cases hr : selR ps l with
  | error x => rw [divR_err hr]; exact Nat.zero_le _
  | ok o =>
    rw [divR_ok hr]
    split
    · show (shrL _ _ _ _).length ≤ _
      rw [shrL_len]; exact Nat.le_refl _
    · exact Nat.zero_le _
theorem law_divides (ps : List Prod) (l : List Sel) (vs : List Inv) (A1 A2 : Option Addr) (n2 c1 c2 : Nat) (v3 v4 v vv : Value) (w : World) (hs : SetF w (.slice A1 ps.length c1) ps) (hl : SellF w v l) (hv : InvS w vv vs) (ht : Am.Tab w) : Calls Tryd.prog 8 #[.agg #[.slice A1 ps.length c1, .slice A2 n2 c2, v3, v4], v, vv] w (TruePost w) := by
  have CA := Lib.hid (fun W (b : Below w.heap.size w W) => awake_any W (tab_keep ht b))
  obtain ⟨Av, cv, rfl, _⟩ := sl_parts hv
  have CF := Lib.hid (fun W (b : Below w.heap.size w W) => few_any A1 A2 ps.length n2 c1 c2 v3 v4 l v Av vs.length cv W hl.size (hl.ok.keep b) (hl.sl.keep b))
  have b0 := below_new w (.cells #[.slice A1 ps.length c1, .slice A2 n2 c2, v3, v4] 48)
  have HAT := Lib.hid (setup_at w 48 (.slice A1 ps.length c1) (.slice A2 n2 c2) v3 v4)
  obtain ⟨w0, hw0⟩ : ∃ W, W = w.alloc (.cells #[.slice A1 ps.length c1, .slice A2 n2 c2, v3, v4] 48) := ⟨_, rfl⟩
  have HW0 := Lib.hid hw0.symm
  rw [← hw0] at HAT b0
  have B0 := Lib.hid b0
  clear hw0 b0
  obtain ⟨Al, cl, rfl, _⟩ := sl_parts hl.sl
  by_cases hf : fewS ps.length n2 l vs.length = true
  · obtain ⟨k1, k2, k3, k4, k5⟩ := few_out hf
    rw [hf] at CF
    have C1 : Hid (∀ W, Below w.heap.size w W → Calls Tryd.prog 31 #[.agg #[.slice A1 ps.length c1, .slice A2 n2 c2, v3, v4], .slice Al l.length cl, .slice Av vs.length cv] W (BothPost (okD (divR ps n2 l vs)) (errD (divR ps n2 l vs)) W)) := fun W b => (divide_any ps n2 l vs (.slice A1 ps.length c1) (.slice Al l.length cl) v3 v4 (.slice Av vs.length cv) A2 c2 W ((hs.keep b).set k1) ((hl.keep b).sell k4) (hv.keep b) (by omega)).mono (fun e w' h => divPost_both h)
    have C2 := Lib.hid (fun W (b : Below w.heap.size w W) => sellers_any l (.slice Al l.length cl) W hl.size (hl.ok.keep b) (hl.sl.keep b))
    have C3 := Lib.hid (fun W (b : Below w.heap.size w W) => invoices_any vs (.slice Av vs.length cv) W (by omega) (hv.keep b))
    have C4 : Hid (∀ W v' vw, Below w.heap.size w W → SelS W v' l → InvS W vw vs → Calls Tryd.prog 32 #[.agg #[.slice A1 ps.length c1, .slice A2 n2 c2, v3, v4], v', vw] W (BothPost (okD (divR ps n2 l vs)) (errD (divR ps n2 l vs)) W)) := fun W v' vw b hz hy => (rdivide_any ps n2 l vs (.slice A1 ps.length c1) v' v3 v4 vw A2 c2 W ((hs.keep b).set k1) ⟨hz, hl.ok.keep b, fun x hx => by have := (k4 x hx).2; omega, hl.size⟩ hy (by omega)).mono (fun e w' h => divPost_both h)
    have hL := okD_len ps n2 l vs
    generalize divR ps n2 l vs = R at *
    have q : (errD R == errD R) = true := beq_self_eq_true _
    generalize errD R = r at *
    generalize okD R = L at *
    have C5 := Lib.hid (fun W vx (hx : ShrS W vx L) => shares_any L vx W (by omega) hx)
    have C6 := Lib.hid (fun W va vb (ha : ShrS W va L) (hb : ShrS W vb L) => rsame_yes L va vb W (by omega) ha hb)
    clear hf k1 k2 k3 k4 k5 hs hl hv ht hL
    generalize ps.length = n1 at *
    generalize l.length = nl at *
    generalize vs.length = nv at *
    unfold BothPost at C1 C4
    go_enter Tryd.func8, Tryd.ntmps8
    go_wp2_with fail
    rw [HW0.out]
    have E0 := Lib.hid (Below.refl w0.heap.size w0)
    refine (CF.out w0 B0.out).mono ?_
    rintro e w1 ⟨rfl, d1⟩
    have E1 := Lib.hid (chain0 E0.out d1)
    have D1 := Lib.hid (chain0 B0.out E1.out)
    clear d1
    have hat := HAT.out w1 E1.out
    go_wp2_with fail
    clear hat
    refine (C1.out w1 D1.out).mono ?_
    rintro e w2 ⟨vx, rfl, x2, d2⟩
    have E2 := Lib.hid (chain0 E1.out d2)
    have D2 := Lib.hid (chain0 B0.out E2.out)
    have X2 := Lib.hid x2
    clear x2
    clear d2
    have hat := HAT.out w2 E2.out
    go_wp2_with fail
    clear hat
    replace X2 := Lib.hid (X2.out.keep (Below.refl _ _).drew)
    have ED := Lib.hid E2.out.drew
    have hat := HAT.out _ ED.out
    go_region_held3 (fun w' => w'.cell? ⟨w.heap.size, 0, none⟩ = some (.slice A1 n1 c1) ∧ w'.cell? ⟨w.heap.size, 1, none⟩ = some (.slice A2 n2 c2) ∧ w'.cell? ⟨w.heap.size, 2, none⟩ = some v3 ∧ w'.cell? ⟨w.heap.size, 3, none⟩ = some v4) (first | exact hat | exact HAT.out _ ED.out | go_keep) (first
      | (go_at_call 33; with_reducible refine (C2.out _ (chain0 B0.out ED.out)).mono ?_; rintro e w9 ⟨v', rfl, z3, dd⟩; replace X2 := Lib.hid (X2.out.keep dd); have Z3 := Lib.hid z3; clear z3; replace ED := Lib.hid (chain0 ED.out dd); replace hat := HAT.out _ ED.out; clear dd)
      | (go_at_call 34; with_reducible refine (C3.out _ (chain0 B0.out ED.out)).mono ?_; rintro e w9 ⟨vw, rfl, y3, dd⟩; replace X2 := Lib.hid (X2.out.keep dd); replace Z3 := Lib.hid (Z3.out.keep dd); have Y3 := Lib.hid y3; clear y3; replace ED := Lib.hid (chain0 ED.out dd); replace hat := HAT.out _ ED.out; clear dd)
      | (go_at_call 32; with_reducible refine (C4.out _ _ _ (chain0 B0.out ED.out) Z3.out Y3.out).mono ?_; rintro e w9 ⟨vy, rfl, y4, dd⟩; replace X2 := Lib.hid (X2.out.keep dd); have Y4 := Lib.hid y4; clear y4; replace ED := Lib.hid (chain0 ED.out dd); replace hat := HAT.out _ ED.out; clear dd)
      )
    have D9 := Lib.hid (chain0 B0.out ED.out)
    clear ED hat
    go_wp2_with fail
    refine (C5.out w9 vx X2.out).mono ?_
    rintro e w10 ⟨vz, rfl, z5, d10⟩
    have D10 := Lib.hid (chain0 D9.out d10)
    have Z5 := Lib.hid z5
    replace Y4 := Lib.hid (Y4.out.keep d10)
    clear z5
    clear d10
    go_wp2_with fail
    refine (C6.out w10 _ _ Z5.out Y4.out).mono ?_
    rintro e w11 ⟨rfl, d11⟩
    have D11 := Lib.hid (chain0 D10.out d11)
    clear d11
    go_wp2_with fail
    refine (CA.out w11 D11.out).mono ?_
    rintro e w12 ⟨rfl, d12⟩
    have D12 := Lib.hid (chain0 D11.out d12)
    clear d12
    go_wp2_with fail
    go_ret
    exact ⟨rfl, D12.out⟩
  · rw [Bool.not_eq_true] at hf
    rw [hf] at CF
    clear hf hs hl hv ht
    generalize ps.length = n1 at *
    generalize l.length = nl at *
    generalize vs.length = nv at *
    go_enter Tryd.func8, Tryd.ntmps8
    go_wp2_with fail
    rw [HW0.out]
    have E0 := Lib.hid (Below.refl w0.heap.size w0)
    refine (CF.out w0 B0.out).mono ?_
    rintro e w1 ⟨rfl, d1⟩
    have E1 := Lib.hid (chain0 E0.out d1)
    have D1 := Lib.hid (chain0 B0.out E1.out)
    clear d1
    have hat := HAT.out w1 E1.out
    go_wp2_with fail
    clear hat
    refine (CA.out w1 (chain0 B0.out E1.out)).mono ?_
    rintro e w2 ⟨rfl, d2⟩
    have E2 := Lib.hid (chain0 E1.out d2)
    have D2 := Lib.hid (chain0 B0.out E2.out)
    clear d2
    go_wp2_with fail
    go_ret
    exact ⟨rfl, D2.out⟩
end Go.Proofs.YtfopmaeaclbknaaDoor.Pr
namespace Go.Proofs.YtfopmaeaclbknaaDoor.Pr
open Go.ChangeShapes Go.WideShapes Go.ChangeAt Go.RowKit Go.Maps Go.WideMaps Gn Cat Lex So
set_option linter.unusedVariables false
set_option linter.unusedSimpArgs false
/-- g 0 + .. + g (m - 1) -/
def upto (g : Nat → Int) : Nat → Int
  | 0 => 0
  | m + 1 => upto g m + g m
theorem upto_range (g : Nat → Int) : ∀ m, ((List.range m).map g).sum = upto g m
  | 0 => rfl
  | m + 1 => by
    rw [List.range_succ, List.map_append, List.sum_append, upto_range g m]
    simp [upto]
theorem upto_add (f g : Nat → Int) : ∀ m, upto (fun i => f i + g i) m = upto f m + upto g m
  | 0 => rfl
  | m + 1 => by
    rw [upto, upto, upto, upto_add f g m]; omega
theorem upto_zero : ∀ m, upto (fun _ => 0) m = 0
  | 0 => rfl
  | m + 1 => by rw [upto, upto_zero m]; rfl
theorem upto_cong {f g : Nat → Int} : ∀ m, (∀ i, i < m → f i = g i) → upto f m = upto g m
  | 0, _ => rfl
  | m + 1, h => by rw [upto, upto, upto_cong m (fun i hi => h i (by omega)), h m (by omega)]
theorem upto_le {f : Nat → Int} {M : Int} (hM : 0 ≤ M) : ∀ m, (∀ i, i < m → 0 ≤ f i ∧ f i ≤ M) → 0 ≤ upto f m ∧ upto f m ≤ m * M
  | 0, _ => by rw [upto]; simp
  | m + 1, h => by
    have h1 := upto_le hM m (fun i hi => h i (by omega))
    have h2 := h m (by omega)
    have e : ((m + 1 : Nat) : Int) * M = m * M + M := by rw [Int.natCast_add, Int.add_mul]; simp
    rw [upto, e]; omega
theorem upto_one (x : Int) (i : Nat) : ∀ m, upto (fun j => if some i = some j then x else 0) m = if i < m then x else 0
  | 0 => by simp [upto]
  | m + 1 => by
    rw [upto, upto_one x i m]
    by_cases e : i = m
    · subst e; simp
    · have : ¬ (some i = some m) := fun h => e (Option.some.inj h)
      rw [if_neg this]
      by_cases h : i < m
      · rw [if_pos h, if_pos (by omega)]; omega
      · rw [if_neg h, if_neg (by omega)]; omega
/-- every product has one seller: the sellers' parts add up -/
theorem part_upto {o : Own} {f : Nat → Int} {m : Nat} : ∀ n, (∀ k, k < n → ∃ i, i < m ∧ o k = some i) → upto (fun i => part o i f n) m = upto f n
  | 0, _ => upto_zero m
  | n + 1, h => by
    have e : (fun i => part o i f (n + 1)) = fun i => part o i f n + (if o n = some i then f n else 0) := rfl
    rw [e, upto_add, part_upto n (fun k hk => h k (by omega)), upto]
    obtain ⟨i, hi, hoi⟩ := h n (by omega)
    rw [hoi, upto_one, if_pos hi]
theorem upto_map {α : Type} (g : α → Nat → Int) (m : Nat) : ∀ l : List α, upto (fun i => (l.map fun v => g v i).sum) m = (l.map fun v => upto (g v) m).sum
  | [] => upto_zero m
  | v :: r => by
    simp only [List.map_cons, List.sum_cons]
    rw [upto_add, upto_map g m r]
theorem upto_shift (g : Nat → Int) : ∀ m, upto g (m + 1) = g 0 + upto (fun i => g (i + 1)) m
  | 0 => by simp [upto]
  | m + 1 => by rw [upto, upto_shift g m, upto]; omega
theorem getD_upto : ∀ L : List Nat, upto (fun i => ((L.getD i 0 : Nat) : Int)) L.length = ((L.sum : Nat) : Int)
  | [] => rfl
  | x :: r => by
    rw [List.length_cons, upto_shift]
    have h := getD_upto r
    have e : (fun i => (((x :: r).getD (i + 1) 0 : Nat) : Int)) = fun i => ((r.getD i 0 : Nat) : Int) := by
      funext i; simp
    rw [e, h]
    simp
theorem sw_upto (f : Prod → Int) (b : Nat → Int) (ps : List Prod) : ∀ n, sw f b ps n = upto (fun k => b k * f (ps.getD k Prod.none)) n
  | 0 => rfl
  | n + 1 => by rw [sw, upto, sw_upto f b ps n]
/-- what is known of an invoice that Divide takes -/
structure InvIs (ps : List Prod) (v : Inv) : Prop where
  ne : eq6 v.want zero6 = false
  fits : rfitsB v.want ps = true
  reserve : v.reserve = sumE Prod.reserve v.want ps
  net0 : 0 ≤ v.net
  net1 : v.net ≤ 1000000
  due : v.due = v.reserve + v.net
  due1 : v.due ≤ 1000000
theorem divErr_is {ps : List Prod} {nb : Nat} : ∀ {vs : List Inv}, divErr ps nb vs = 0 → ∀ v ∈ vs, InvIs ps v
  | [], _, _, hv => by cases hv
  | x :: r, h, v, hv => by
    rw [divErr] at h
    by_cases h1 : invOk ps nb x = true
    · rw [if_pos h1] at h
      by_cases h2 : 1000000 < x.due
      · rw [if_pos h2] at h; cases h
      · rw [if_neg h2] at h
        rcases List.mem_cons.1 hv with e | e
        · subst e
          unfold invOk at h1
          simp only [Bool.and_eq_true, decide_eq_true_eq, Bool.not_eq_true'] at h1
          exact ⟨h1.2.2.1, h1.2.2.2.1, h1.2.2.2.2.1, h1.2.2.2.2.2.1, h1.2.2.2.2.2.2.1, h1.2.2.2.2.2.2.2, by omega⟩
        · exact divErr_is h v e
    · rw [if_neg h1] at h; cases h
/-- what is known once Divide takes the list -/
theorem divR_is {ps : List Prod} {nb : Nat} {l : List Sel} {vs : List Inv} {L : List Shr} (h : divR ps nb l vs = .ok L) : ∃ o, checkE ps = 0 ∧ OwnOk ps.length l o ∧ selR ps l = .ok o ∧ divErr ps nb vs = 0 ∧ L = shrL l.length (fun i => (i : Int)) (gotR o ps vs) (gotN o ps l.length vs) := by
  cases hr : selR ps l with
  | error x => rw [divR_err hr] at h; cases h
  | ok o =>
    rw [divR_ok hr] at h
    split at h
    · rename_i he
      refine ⟨o, ?_, ?_, rfl, he, (Except.ok.inj h).symm⟩
      · unfold selR at hr
        split at hr
        · assumption
        · cases hr
      · unfold selR at hr
        split at hr
        · split at hr
          · cases hr
          · split at hr
            · cases hr
            · exact ownR_ok hr
        · cases hr
    · cases h
theorem res_upto {ps : List Prod} {v : Inv} {l : List Sel} {o : Own} (hz : checkE ps = 0) (ho : OwnOk ps.length l o) (h : InvIs ps v) : upto (fun i => part o i (fR ps v.want) ps.length) l.length = v.reserve := by
  rw [part_upto ps.length ho.full, h.reserve]
  have hf := h.fits
  have hf2 : validB v.want = true ∧ tailB v.want ps.length = true := by
    unfold rfitsB fitsB at hf
    simpa [hz] using hf
  unfold sumE
  rw [if_pos ⟨hz, hf2.1⟩, sw_upto]
  rfl
theorem net_upto {ps : List Prod} {v : Inv} {l : List Sel} {o : Own} (hz : checkE ps = 0) (ho : OwnOk ps.length l o) (h : InvIs ps v) : upto (netP o ps l.length v) l.length = v.net := by
  have hp := wgts_pos hz ho h.fits h.ne
  have e : (shareL v.net.toNat (wgts o ps v.want l.length)).length = l.length := by rw [shareL_len, wgts_len]
  have g := getD_upto (shareL v.net.toNat (wgts o ps v.want l.length))
  rw [e] at g
  have s : (shareL v.net.toNat (wgts o ps v.want l.length)).sum = v.net.toNat := shares_sum (ordL_ok _ _ _) hp rfl
  rw [s] at g
  have k : upto (netP o ps l.length v) l.length = ((v.net.toNat : Nat) : Int) := g
  rw [k]
  have := h.net0
  omega
theorem sum_map_le {α : Type} {f : α → Int} {M : Int} : ∀ {l : List α}, (∀ v ∈ l, 0 ≤ f v ∧ f v ≤ M) → 0 ≤ (l.map f).sum ∧ (l.map f).sum ≤ l.length * M
  | [], _ => by simp
  | x :: r, h => by
    have h1 := h x (List.mem_cons_self ..)
    have h2 := sum_map_le (l := r) (M := M) (fun v hv => h v (List.mem_cons_of_mem _ hv))
    simp only [List.map_cons, List.sum_cons, List.length_cons]
    have e : ((r.length + 1 : Nat) : Int) * M = r.length * M + M := by rw [Int.natCast_add, Int.add_mul]; simp
    rw [e]; omega
theorem inv_valid {ps : List Prod} {v : Inv} (hz : checkE ps = 0) (h : InvIs ps v) : validB v.want = true := by
  have hf := h.fits
  have hf2 : validB v.want = true ∧ tailB v.want ps.length = true := by
    unfold rfitsB fitsB at hf
    simpa [hz] using hf
  exact hf2.1
theorem gotR_range {ps : List Prod} {vs : List Inv} {o : Own} (hz : checkE ps = 0) (hv : ∀ v ∈ vs, InvIs ps v) (i : Nat) : 0 ≤ gotR o ps vs i ∧ gotR o ps vs i ≤ vs.length * (ps.length * 4000000) := by
  unfold gotR
  exact sum_map_le fun v h => part_range (by omega) ps.length fun k hk => fR_range hz (inv_valid hz (hv v h)) hk
theorem gotN_range {ps : List Prod} {vs : List Inv} {o : Own} {l : List Sel} (hz : checkE ps = 0) (ho : OwnOk ps.length l o) (hv : ∀ v ∈ vs, InvIs ps v) (i : Nat) : 0 ≤ gotN o ps l.length vs i ∧ gotN o ps l.length vs i ≤ vs.length * 1000000 := by
  unfold gotN
  refine sum_map_le fun v h => ?_
  have h1 := hv v h
  have h2 := netP_range (o := o) (ps := ps) (m := l.length) (v := v) i (wgts_pos hz ho h1.fits h1.ne)
  have h3 := h1.net0
  have h4 := h1.net1
  omega
theorem gotR_upto {ps : List Prod} {vs : List Inv} {o : Own} {l : List Sel} (hz : checkE ps = 0) (ho : OwnOk ps.length l o) (hv : ∀ v ∈ vs, InvIs ps v) : upto (gotR o ps vs) l.length = (vs.map Inv.reserve).sum := by
  have e : gotR o ps vs = fun i => (vs.map fun v => part o i (fR ps v.want) ps.length).sum := rfl
  rw [e]; refine (upto_map (fun (v : Inv) i => part o i (fR ps v.want) ps.length) _ _).trans ?_
  congr 1
  exact List.map_congr_left fun v h => res_upto hz ho (hv v h)
theorem gotN_upto {ps : List Prod} {vs : List Inv} {o : Own} {l : List Sel} (hz : checkE ps = 0) (ho : OwnOk ps.length l o) (hv : ∀ v ∈ vs, InvIs ps v) : upto (gotN o ps l.length vs) l.length = (vs.map Inv.net).sum := by
  have e : gotN o ps l.length vs = fun i => (vs.map fun v => netP o ps l.length v i).sum := rfl
  rw [e]; refine (upto_map (fun (v : Inv) i => netP o ps l.length v i) _ _).trans ?_
  congr 1
  exact List.map_congr_left fun v h => net_upto hz ho (hv v h)
theorem sum_map_add {α : Type} (f g : α → Int) : ∀ l : List α, (l.map fun v => f v + g v).sum = (l.map f).sum + (l.map g).sum
  | [] => rfl
  | x :: r => by simp only [List.map_cons, List.sum_cons]; rw [sum_map_add f g r]; omega
theorem dues_all {ps : List Prod} {vs : List Inv} (hv : ∀ v ∈ vs, InvIs ps v) : (dues vs).sum = (vs.map Inv.reserve).sum + (vs.map Inv.net).sum := by
  unfold dues
  rw [List.filter_eq_self.2 (fun v h => by
    have h1 := hv v h
    have h2 := (sum_range (b := v.want) (l := ps)).1
    have h3 := h1.reserve
    have h4 := h1.due
    have h5 := h1.net0
    have h6 := h1.due1
    rw [decide_eq_true_eq]
    omega), ← sum_map_add]
  congr 1
  exact List.map_congr_left fun v h => (hv v h).due
/-- the law's sums -/
theorem all_upto {ps : List Prod} {vs : List Inv} {o : Own} {l : List Sel} (hz : checkE ps = 0) (ho : OwnOk ps.length l o) (hv : ∀ v ∈ vs, InvIs ps v) : upto (fun i => gotR o ps vs i + gotN o ps l.length vs i) l.length = (dues vs).sum := by
  rw [upto_add, gotR_upto hz ho hv, gotN_upto hz ho hv, dues_all hv]
end Go.Proofs.YtfopmaeaclbknaaDoor.Pr
namespace Go.Proofs.YtfopmaeaclbknaaDoor.Pr
open Go.ChangeShapes Go.WideShapes Go.ChangeAt Go.RowKit Go.Maps Go.WideMaps Gn Cat Lex So
set_option linter.unusedVariables false
set_option linter.unusedSimpArgs false
set_option maxHeartbeats 4000000
theorem upto_step (g : Nat → Int) (m : Nat) : upto g (m + 1) = upto g m + g m := rfl
theorem divR_ne {ps : List Prod} {nb : Nat} {l : List Sel} {vs : List Inv} {e : Int} (h : divR ps nb l vs = .error e) : e ≠ 0 := by
  cases hr : selR ps l with
  | error x => rw [divR_err hr] at h; cases h; exact selR_ne hr
  | ok o =>
    rw [divR_ok hr] at h
    split at h
    · cases h
    · rename_i hne
      cases h
      exact hne
theorem law_add (ps : List Prod) (l : List Sel) (vs : List Inv) (A1 A2 : Option Addr) (n2 c1 c2 : Nat) (v3 v4 v vv : Value) (w : World) (hs : SetF w (.slice A1 ps.length c1) ps) (hl : SellF w v l) (hv : InvS w vv vs) (ht : Am.Tab w) : Calls Tryd.prog 12 #[.agg #[.slice A1 ps.length c1, .slice A2 n2 c2, v3, v4], v, vv] w (TruePost w) := by
  have CA := Lib.hid (fun W (b : Below w.heap.size w W) => awake_any W (tab_keep ht b))
  obtain ⟨Av, cv, rfl, _, _, hcv⟩ := sl_parts hv
  have HCV := Lib.hid hcv
  clear hcv
  have CF := Lib.hid (fun W (b : Below w.heap.size w W) => few_any A1 A2 ps.length n2 c1 c2 v3 v4 l v Av vs.length cv W hl.size (hl.ok.keep b) (hl.sl.keep b))
  have b0 := below_new w (.cells #[.slice A1 ps.length c1, .slice A2 n2 c2, v3, v4] 48)
  have HAT := Lib.hid (setup_at w 48 (.slice A1 ps.length c1) (.slice A2 n2 c2) v3 v4)
  obtain ⟨w0, hw0⟩ : ∃ W, W = w.alloc (.cells #[.slice A1 ps.length c1, .slice A2 n2 c2, v3, v4] 48) := ⟨_, rfl⟩
  have HW0 := Lib.hid hw0.symm
  rw [← hw0] at HAT b0
  have B0 := Lib.hid b0
  clear hw0 b0
  obtain ⟨Al, cl, rfl, _⟩ := sl_parts hl.sl
  by_cases hf : fewS ps.length n2 l vs.length = true
  · obtain ⟨k1, k2, k3, k4, k5⟩ := few_out hf
    rw [hf] at CF
    have C1 : Hid (∀ W, Below w.heap.size w W → Calls Tryd.prog 31 #[.agg #[.slice A1 ps.length c1, .slice A2 n2 c2, v3, v4], .slice Al l.length cl, .slice Av vs.length cv] W (DivPost (divR ps n2 l vs) W)) := fun W b => divide_any ps n2 l vs (.slice A1 ps.length c1) (.slice Al l.length cl) v3 v4 (.slice Av vs.length cv) A2 c2 W ((hs.keep b).set k1) ((hl.keep b).sell k4) (hv.keep b) (by omega)
    cases hR : divR ps n2 l vs with
    | error x =>
      have hx0 : (x != 0) = true := by simpa using divR_ne hR
      rw [hR] at C1
      unfold DivPost at C1
      clear hf k1 k2 k3 k4 k5 hs hl hv ht hR
      generalize ps.length = n1 at *
      generalize l.length = nl at *
      generalize vs.length = nv at *
      go_enter Tryd.func12, Tryd.ntmps12
      go_wp2_with fail
      rw [HW0.out]
      have E0 := Lib.hid (Below.refl w0.heap.size w0)
      refine (CF.out w0 B0.out).mono ?_
      rintro e w1 ⟨rfl, d1⟩
      have E1 := Lib.hid (chain0 E0.out d1)
      have D1 := Lib.hid (chain0 B0.out E1.out)
      clear d1
      have hat := HAT.out w1 E1.out
      go_wp2_with fail
      clear hat
      refine (C1.out w1 D1.out).mono ?_
      rintro e w2 ⟨rfl, d2⟩
      have E2 := Lib.hid (chain0 E1.out d2)
      have D2 := Lib.hid (chain0 B0.out E2.out)
      clear d2
      have hat := HAT.out w2 E2.out
      go_wp2_with fail
      clear hat
      refine (CA.out w2 (chain0 B0.out E2.out)).mono ?_
      rintro e w3 ⟨rfl, d3⟩
      have E3 := Lib.hid (chain0 E2.out d3)
      have D3 := Lib.hid (chain0 B0.out E3.out)
      clear d3
      go_wp2_with fail
      go_ret
      exact ⟨rfl, D3.out⟩
    | ok L =>
      rw [hR] at C1
      unfold DivPost at C1
      obtain ⟨o, hz, ho, _, he, hLL⟩ := divR_is hR
      have hvs := divErr_is he
      have H6 := (checkE_zero hz).2.1
      have HR : Hid (∀ i, 0 ≤ gotR o ps vs i ∧ gotR o ps vs i ≤ 1000000000) := fun i => by
        have h := gotR_range (o := o) hz hvs i
        have h2 : (vs.length : Int) * (ps.length * 4000000) ≤ 20 * (6 * 4000000) := Int.mul_le_mul (by omega) (by omega) (by omega) (by omega)
        omega
      have HN : Hid (∀ i, 0 ≤ gotN o ps l.length vs i ∧ gotN o ps l.length vs i ≤ 1000000000) := fun i => by
        have h := gotN_range hz ho hvs i
        omega
      have HA := Lib.hid (all_upto hz ho hvs)
      have HB := Lib.hid (gotR_upto hz ho hvs)
      have CR := Lib.hid (fun W (b : Below w.heap.size w W) => revenue_any vs (.slice Av vs.length cv) W (by omega) (hv.keep b))
      subst hLL
      generalize gotR o ps vs = R at *
      generalize gotN o ps l.length vs = N at *
      have K3 : l.length ≤ 1000 := by omega
      have K5 : vs.length ≤ 20 := k5
      have KV := Lib.hid (fun W (b : Below w.heap.size w W) => hv.keep b)
      have KI := Lib.hid (fun v (h : v ∈ vs) => hvs v h)
      clear hf k1 k2 k3 k4 k5 hs hl hv ht hR hvs ho hz he H6
      generalize ps.length = n1 at *
      go_enter Tryd.func12, Tryd.ntmps12
      go_wp2_with fail
      rw [HW0.out]
      have E0 := Lib.hid (Below.refl w0.heap.size w0)
      refine (CF.out w0 B0.out).mono ?_
      rintro e w1 ⟨rfl, d1⟩
      have E1 := Lib.hid (chain0 E0.out d1)
      have D1 := Lib.hid (chain0 B0.out E1.out)
      clear d1
      have hat := HAT.out w1 E1.out
      go_wp2_with fail
      clear hat
      refine (C1.out w1 D1.out).mono ?_
      rintro e w2 ⟨vx, rfl, x2, d2⟩
      have E2 := Lib.hid (chain0 E1.out d2)
      have D2 := Lib.hid (chain0 B0.out E2.out)
      obtain ⟨Ax, cx, rfl, _, _, hcx⟩ := sl_parts x2
      rw [shrL_len] at hcx
      rw [shrL_len]
      have HCX := Lib.hid hcx
      clear x2 hcx
      clear d2
      have hat := HAT.out w2 E2.out
      go_wp2_with fail
      clear hat
      have KU1 : ∀ k : Nat, k ≤ 1000 → 0 ≤ upto (fun i => R i + N i) k ∧ upto (fun i => R i + N i) k ≤ 2000000000000 := fun k hk => by
        have h := upto_le (f := fun i => R i + N i) (M := 2000000000) (by omega) k (fun i _ => by have h1 := HR.out i; have h2 := HN.out i; show 0 ≤ R i + N i ∧ R i + N i ≤ _; omega)
        omega
      have KU2 : ∀ k : Nat, k ≤ 1000 → 0 ≤ upto R k ∧ upto R k ≤ 1000000000000 := fun k hk => by
        have h := upto_le (f := R) (M := 1000000000) (by omega) k (fun i _ => HR.out i)
        omega
      have HU1 := Lib.hid KU1
      have HU2 := Lib.hid KU2
      clear KU1 KU2
      go_loopw [12, 9, 10] (fun iv av rv wr => ∃ k : Nat, k ≤ l.length ∧ iv = .int .i64 (k : Int) ∧ av = .int .i64 (upto (fun i => R i + N i) k) ∧ rv = .int .i64 (upto R k) ∧ Hid (Below w2.heap.size w2 wr)) (fun iv _ _ _ => l.length - (intOf iv).toNat)
      case atStart => exact ⟨0, Nat.zero_le _, rfl, rfl, rfl, Below.refl _ _⟩
      case round =>
        obtain ⟨k, hk, rfl, rfl, rfl, HW⟩ := hrel
        have hk0 : (0 : Int) ≤ (k : Int) := by omega
        have hk5 : (k : Int) ≤ 1000 := by omega
        by_cases hkn : k < l.length
        · have hd1 : decide (k < l.length) = true := decide_eq_true hkn
          have hd2 : decide ((k : Int) < (l.length : Int)) = true := decide_eq_true (by omega)
          have hkn1 : (k : Int) < (l.length : Int) := by omega
          obtain ⟨b, o, eA, hb, hrow⟩ := HCX.out (by omega)
          subst eA
          have hat := shr_at (hrow.below hb HW.out) k (by rw [shrL_len]; exact hkn)
          rw [shrL_at] at hat
          have HA1 := Lib.hid (upto_step (fun i => R i + N i) k)
          have HB1 := Lib.hid (upto_step R k)
          have ua := HU1.out k (by omega)
          have ub := HU2.out k (by omega)
          have ur := HR.out k
          have un := HN.out k
          have z1 : ((k : Int) != (k : Int)) = false := by simp
          have z2 : decide (R k < 0) = false := decide_eq_false (by omega)
          have z3 : decide (N k < 0) = false := decide_eq_false (by omega)
          generalize R k = r at *
          generalize N k = nn at *
          generalize hga : upto (fun i => R i + N i) k = a at *
          generalize hgb : upto R k = ab at *
          clear hga hgb hrow hb
          go_wp2_with fail
          go_quiet (fail)
          go_wp2_with fail
          go_roundw
          case rel => exact ⟨k + 1, hkn, by go_num, by rw [HA1.out, Int.add_assoc], by rw [HB1.out], by first | exact chain0 HW.out (drewN_below _ _) | exact HW.out⟩
          case measure => simp [intOf]; omega
        · obtain rfl : k = l.length := by omega
          have hd1 : decide (l.length < l.length) = false := decide_eq_false (Nat.lt_irrefl _)
          have hd2 : decide ((l.length : Int) < (l.length : Int)) = false := decide_eq_false (Int.lt_irrefl _)
          rw [HA.out, HB.out]
          go_wp2_with fail
          have HT : Hid (∀ k : Nat, k ≤ 20 → 0 ≤ ((vs.take k).map Inv.reserve).sum ∧ ((vs.take k).map Inv.reserve).sum ≤ 20000000) := fun k hk => by
            have h := sum_map_le (f := Inv.reserve) (M := 1000000) (l := vs.take k) (fun v h => by
              have g := KI.out v (List.mem_of_mem_take h)
              have g1 := (sum_range (b := v.want) (l := ps)).1
              have g2 := g.reserve
              have g3 := g.due
              have g4 := g.due1
              have g5 := g.net0
              omega)
            have h2 : (vs.take k).length ≤ 20 := by rw [List.length_take]; omega
            omega
          go_loopw [13, 11] (fun iv ov ws => ∃ q : Nat, q ≤ vs.length ∧ iv = .int .i64 (q : Int) ∧ ov = .int .i64 ((vs.take q).map Inv.reserve).sum ∧ Hid (Below w2.heap.size w2 ws)) (fun iv _ _ => vs.length - (intOf iv).toNat)
          case atStart => exact ⟨0, Nat.zero_le _, rfl, rfl, HW.out⟩
          case round =>
            obtain ⟨q, hq, rfl, rfl, HV2⟩ := hrel
            have hq0 : (0 : Int) ≤ (q : Int) := by omega
            have hq5 : (q : Int) ≤ 20 := by omega
            by_cases hqn : q < vs.length
            · have hd3 : decide (q < vs.length) = true := decide_eq_true hqn
              have hd4 : decide ((q : Int) < (vs.length : Int)) = true := decide_eq_true (by omega)
              have hqn1 : (q : Int) < (vs.length : Int) := by omega
              obtain ⟨b, o, eA, hb, hrow⟩ := HCV.out (by omega)
              subst eA
              have hat := inv_at (hrow.below hb (chain0 D2.out HV2.out)) q hqn
              have HS : Hid (((vs.take (q + 1)).map Inv.reserve).sum = ((vs.take q).map Inv.reserve).sum + (vs[q]).reserve) := by
                show _ = _
                rw [List.take_succ_eq_append_getElem hqn, List.map_append, List.sum_append]
                simp
              have ha := HT.out q (by omega)
              have ha2 := HT.out (q + 1) (by omega)
              rw [HS.out] at ha2
              generalize vs[q] = x at *
              generalize ((vs.take q).map Inv.reserve).sum = s at *
              clear hrow hb
              go_wp2_with fail
              go_roundw
              case rel => exact ⟨q + 1, hqn, by go_num, by rw [HS.out], by first | exact chain0 HV2.out (drewN_below _ _) | exact HV2.out⟩
              case measure => simp [intOf]; omega
            · obtain rfl : q = vs.length := by omega
              have hd3 : decide (vs.length < vs.length) = false := decide_eq_false (Nat.lt_irrefl _)
              have hd4 : decide ((vs.length : Int) < (vs.length : Int)) = false := decide_eq_false (Int.lt_irrefl _)
              rw [List.take_length]
              have DV := Lib.hid (chain0 D2.out HV2.out)
              have q1 : ((dues vs).sum == (dues vs).sum) = true := beq_self_eq_true _
              have q2 : ((vs.map Inv.reserve).sum == (vs.map Inv.reserve).sum) = true := beq_self_eq_true _
              have q3 : ((l.length : Int) == (l.length : Int)) = true := beq_self_eq_true _
              have CR1 := Lib.hid (CR.out _ DV.out)
              generalize (dues vs).sum = T1 at *
              generalize (vs.map Inv.reserve).sum = T2 at *
              clear HA HB HT
              go_wp2_with fail
              refine CR1.out.mono ?_
              rintro e w7 ⟨rfl, d7⟩
              have D7 := Lib.hid (chain0 DV.out d7)
              clear d7
              go_wp2_with fail
              refine (CA.out w7 D7.out).mono ?_
              rintro e w8 ⟨rfl, d8⟩
              have D8 := Lib.hid (chain0 D7.out d8)
              clear d8
              go_wp2_with fail
              go_ret
              exact ⟨rfl, D8.out⟩
  · rw [Bool.not_eq_true] at hf
    rw [hf] at CF
    clear hf hs hl hv ht
    generalize ps.length = n1 at *
    generalize l.length = nl at *
    generalize vs.length = nv at *
    go_enter Tryd.func12, Tryd.ntmps12
    go_wp2_with fail
    rw [HW0.out]
    have E0 := Lib.hid (Below.refl w0.heap.size w0)
    refine (CF.out w0 B0.out).mono ?_
    rintro e w1 ⟨rfl, d1⟩
    have E1 := Lib.hid (chain0 E0.out d1)
    have D1 := Lib.hid (chain0 B0.out E1.out)
    clear d1
    have hat := HAT.out w1 E1.out
    go_wp2_with fail
    clear hat
    refine (CA.out w1 (chain0 B0.out E1.out)).mono ?_
    rintro e w2 ⟨rfl, d2⟩
    have E2 := Lib.hid (chain0 E1.out d2)
    have D2 := Lib.hid (chain0 B0.out E2.out)
    clear d2
    go_wp2_with fail
    go_ret
    exact ⟨rfl, D2.out⟩
end Go.Proofs.YtfopmaeaclbknaaDoor.Pr
