/- The program's object: allow. -/
import Derived.Test.YtainelkenkgppaaDoorPlw
namespace Go.Proofs.YtainelkenkgppaaDoor
open Go.ChangeShapes Go.WideShapes Go.ChangeAt Go.RowKit Go.Lott
open Go.Sort Go.Lott.Stb Go.Lott.Srt Go.Lott.Lm
theorem barred_at {l : List (Int × Int)} {t : Int} {k : Nat} (hk : k < l.length) (h1 : zP l k 0 ≤ t) (h2 : t ≤ zP l k 1) : barred l t = true := by
  unfold barred
  rw [List.any_eq_true]
  refine ⟨l[k], List.getElem_mem hk, ?_⟩
  unfold zP at h1 h2
  rw [List.getElem?_eq_getElem hk] at h1 h2
  simpa using ⟨h1, h2⟩
theorem barred_all {l : List (Int × Int)} {t : Int} (h : ∀ j, j < l.length → ¬ (zP l j 0 ≤ t ∧ t ≤ zP l j 1)) : barred l t = false := by
  unfold barred
  rw [List.any_eq_false]
  intro p hp c
  obtain ⟨j, hj, rfl⟩ := List.mem_iff_getElem.1 hp
  refine h j hj ?_
  unfold zP
  rw [List.getElem?_eq_getElem hj]
  simpa using c
/-- What allow gives. -/
def alP (r : Nat) (x : PRec) (t m : Int) : Value := .tuple #[if barred x.ex t then .pointer none else .pointer (some ⟨r, 0, none⟩), .int .i64 (if barred x.ex t then 20 else alN (zP x.hi) x.hi.length (zC x.ch) x.ch.length t m)]
section
variable {w : World} {B p m : Nat} {τ : Rl} {S : PSt} {D : DataW Unit} {rb : Nat → Nat} {V : Nat → Nat → Value}
theorem alP_yes {r : Nat} {x : PRec} {t m : Int} (h : barred x.ex t = true) : Ending.returned (.tuple #[.pointer none, .int .i64 20]) = .returned (alP r x t m) := by unfold alP; rw [h]; rfl
theorem alP_no {r : Nat} {x : PRec} {t m : Int} (h : barred x.ex t = false) : Ending.returned (.tuple #[.pointer (some ⟨r, 0, none⟩), .int .i64 (alN (zP x.hi) x.hi.length (zC x.ch) x.ch.length t m)]) = .returned (alP r x t m) := by unfold alP; rw [h]; rfl
set_option maxHeartbeats 4000000 in
set_option maxRecDepth 100000 in
theorem pallow_ok (h : PObj w B τ p S m D rb V) (hT : Tab w) (hsz : Sz S 300) {id t a : Int} (hk : knE (basE id t S.now) (knw S id) = 0) :
    Calls Tryd.prog 70 #[.pointer (some ⟨p, 0, none⟩), .int .i64 id, .int .i64 t, .int .i64 a] w (RetB (alP (rb (fnd S.rs id)) (thr S id) t a) w) := by
  have HF := Lib.hid (pfind_ok h hk)
  have hkn := (knE_zero hk).2
  have hkl := knw_iff.1 hkn
  obtain ⟨R, hR⟩ : ∃ R, R = rb (fnd S.rs id) := ⟨_, rfl⟩
  obtain ⟨x, hx⟩ : ∃ x, x = thr S id := ⟨_, rfl⟩
  have hc := h.cr _ hkl
  have hr0 := h.rw _ 0 hkl (by omega)
  have hr1 := h.rw _ 1 hkl (by omega)
  have hr2 := h.rw _ 2 hkl (by omega)
  rw [rOf_thr, ← hx] at hr0 hr1 hr2
  obtain ⟨a0, c0, e0, w0⟩ := hr0.rows0
  obtain ⟨a1, c1, e1, w1⟩ := hr1.rows1
  obtain ⟨a2, c2, e2, w2⟩ := hr2.rows2
  rw [e0, e1, e2, ← hR] at hc
  have hs := hsz.thr id
  rw [← hx] at hs
  rw [← hR] at HF ⊢
  rw [← hx]
  obtain ⟨n1, hn1⟩ : ∃ n1, n1 = x.ex.length := ⟨_, rfl⟩
  obtain ⟨n0, hn0⟩ : ∃ n0, n0 = x.ch.length := ⟨_, rfl⟩
  obtain ⟨n2, hn2⟩ : ∃ n2, n2 = x.hi.length := ⟨_, rfl⟩
  have hal := fun y (hb : Below w.heap.size w y) => Allow_any a2 x.hi.length c2 (zP x.hi) a0 x.ch.length c0 (zC x.ch) t a y (hT.grow hb) (by omega) (by omega) (w2.below hb (Nat.le_refl _)) (w0.below hb (Nat.le_refl _))
  obtain ⟨E, hE⟩ : ∃ E, E = alN (zP x.hi) x.hi.length (zC x.ch) x.ch.length t a := ⟨_, rfl⟩
  have HN := Lib.hid (fun hb => hE ▸ alP_no (r := R) (x := x) (t := t) (m := a) hb : barred x.ex t = false → _)
  have HY := Lib.hid (fun hb => alP_yes (r := R) (x := x) (t := t) (m := a) hb : barred x.ex t = true → _)
  have HBA := Lib.hid (fun (hb : ∀ j, j < n1 → ¬ (zP x.ex j 0 ≤ t ∧ t ≤ zP x.ex j 1)) => barred_all (l := x.ex) (t := t) (by rw [← hn1]; exact hb))
  have HBB := Lib.hid (fun (k : Nat) (hk : k < n1) (h1 : zP x.ex k 0 ≤ t) (h2 : t ≤ zP x.ex k 1) => barred_at (l := x.ex) (t := t) (k := k) (by rw [← hn1]; exact hk) h1 h2)
  rw [← hn0, ← hn1, ← hn2] at hc
  rw [← hE, ← hn0, ← hn2] at hal
  rw [← hn1] at w1
  have HAL := Lib.hid hal
  have HC := Lib.hid hc
  have HW1 := Lib.hid w1
  have hle : n1 ≤ 300 := by omega
  have k1 := hc.cell 1
  simp at k1
  clear h hsz hk hkn hkl hR hx hr0 hr1 hr2 e0 e1 e2 w0 w1 w2 hs hn0 hn1 hn2 hE hal hc hT
  go_enter Tryd.func70, Tryd.ntmps70
  go_wp2_with (go_at_call 69; refine HF.out.mono ?_; rintro e w' ⟨rfl, rfl⟩)
  go_loopw [29] (fun vk wr => ∃ k : Nat, vk = .int .i64 k ∧ k ≤ n1 ∧ (∀ j, j < k → ¬ (zP x.ex j 0 ≤ t ∧ t ≤ zP x.ex j 1)) ∧ Below w.heap.size w wr) (fun vk _ => n1 - (intOf vk).toNat)
  case atStart => exact ⟨0, by go_num, Nat.zero_le _, fun j hj => by omega, Below.refl _ _⟩
  case round =>
    obtain ⟨k, rfl, hk, hall, hbel⟩ := hrel
    have HA := Lib.hid hall
    clear hall
    by_cases hlt : k < n1
    · obtain ⟨b, o, rfl, hbb, _, hcell⟩ := HW1.out.resolve_left (by omega)
      have d0 : wr.cell? ⟨b, o + k * 2, none⟩ = some (.int .i64 (zP x.ex k 0)) := (hbel.cell (p := ⟨b, _, none⟩) hbb).trans (hcell k 0 hlt (by omega))
      have d1 : wr.cell? ⟨b, o + k * 2 + 1, none⟩ = some (.int .i64 (zP x.ex k 1)) := (hbel.cell (p := ⟨b, _, none⟩) hbb).trans (hcell k 1 hlt (by omega))
      clear hcell
      by_cases h1 : zP x.ex k 0 ≤ t
      · by_cases h2 : t ≤ zP x.ex k 1
        · have HV := Lib.hid (HY.out (HBB.out k hlt h1 h2))
          go_wp2
          go_ret2
          exact ⟨HV.out, hbel.alloc hbel.size _⟩
        · have h2' : zP x.ex k 1 < t := by omega
          have HV := Lib.hid h2
          clear h2
          go_wp2
          go_roundw
          case rel => exact ⟨k + 1, by go_num, hlt, fun j hj => by
            rcases Nat.lt_or_ge j k with c | c
            · exact HA.out j c
            · obtain rfl : j = k := by omega
              exact fun c => HV.out c.2, hbel.alloc hbel.size _⟩
          case measure => simp [intOf]; omega
      · have h1' : t < zP x.ex k 0 := by omega
        have HV := Lib.hid h1
        clear h1
        go_wp2
        go_roundw
        case rel => exact ⟨k + 1, by go_num, hlt, fun j hj => by
          rcases Nat.lt_or_ge j k with c | c
          · exact HA.out j c
          · obtain rfl : j = k := by omega
            exact fun c => HV.out c.1, hbel.alloc hbel.size _⟩
        case measure => simp [intOf]; omega
    · obtain rfl : k = n1 := by omega
      have HV := Lib.hid (HN.out (HBA.out HA.out))
      have hC := HC.out.below hbel HC.out.lt
      have g0 : ∀ y : Sub wr.heap.size wr, y.w.cell? ⟨R, 0, none⟩ = some (.slice a0 n0 c0) := Sub.cell (hC.cell 0) hC.lt
      have g2 : ∀ y : Sub wr.heap.size wr, y.w.cell? ⟨R, 2, none⟩ = some (.slice a2 n2 c2) := Sub.cell (hC.cell 2) hC.lt
      have HAS := Lib.hid (fun y : Sub wr.heap.size wr => HAL.out y.w (hbel.trans (y.h.mono hbel.size)))
      clear hC
      go_wp2
      refine wp_region_below (by kernel_rfl) (by kernel_rfl) ?_
      repeat (go_big_quiet_step ((go_at_call 16; exact Sub.ofB _ (Nat.le_refl _) (HAS.out _))))
      refine wpQuiet_nil ?_
      rintro w5 ⟨⟨_, hb5⟩, rfl⟩
      go_wp2
      go_ret2
      exact ⟨HV.out, hbel.trans (hb5.mono hbel.size)⟩
theorem pallow_no (h : PObj w B τ p S m D rb V) {id t a e : Int} (hk : knE (basE id t S.now) (knw S id) = e) (he : e ≠ 0) :
    Calls Tryd.prog 70 #[.pointer (some ⟨p, 0, none⟩), .int .i64 id, .int .i64 t, .int .i64 a] w (RetS (.tuple #[.pointer none, .int .i64 e]) w) := by
  have HF := Lib.hid (pfind_no h hk he)
  have hnb : (e != 0) = true := by simp [he]
  clear h hk he
  go_enter Tryd.func70, Tryd.ntmps70
  go_wp2_with (go_at_call 69; refine HF.out.mono ?_; rintro e' w' ⟨rfl, rfl⟩)
  go_ret2
  exact ⟨rfl, rfl⟩
theorem pallow_nil (id t a : Int) (w : World) : Calls Tryd.prog 70 #[.pointer none, .int .i64 id, .int .i64 t, .int .i64 a] w (RetS (.tuple #[.pointer none, .int .i64 5]) w) := by
  go_enter Tryd.func70, Tryd.ntmps70
  go_wp2_with (go_at_call 69; refine (pfind_nil _ _ _).mono ?_; rintro e' w' ⟨rfl, rfl⟩)
  go_ret2
  exact ⟨rfl, rfl⟩
end
end Go.Proofs.YtainelkenkgppaaDoor
