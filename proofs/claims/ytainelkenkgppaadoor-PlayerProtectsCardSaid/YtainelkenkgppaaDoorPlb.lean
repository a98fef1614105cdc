/- Players: the plain laws. No program stands in this text. -/
import Derived.Test.YtainelkenkgppaaDoorPla
import Derived.Test.YtainelkenkgppaaDoorCaly
namespace Go.Proofs.YtainelkenkgppaaDoor
open Go.Lott Go.Lott.Lm
theorem chk_two (x y z : Int) : chk x y z = 0 ∨ chk x y z = 2 := by unfold chk; split <;> simp
theorem knE_zero {b : Int} {k : Bool} (h : knE b k = 0) : b = 0 ∧ k = true := by
  unfold knE at h
  by_cases hb : b = 0
  · rw [if_pos hb] at h
    cases k with
    | true => exact ⟨hb, rfl⟩
    | false => simp at h
  · rw [if_neg hb] at h; omega
theorem regE_zero {b birth t : Int} {k : Bool} (h : regE b k birth t = 0) : b = 0 ∧ k = false := by
  unfold regE at h
  by_cases hb : b = 0
  · rw [if_pos hb] at h
    refine ⟨hb, ?_⟩
    cases k with
    | false => rfl
    | true =>
      exfalso
      by_cases ha : ageE birth (t / 1440) = 0
      · rw [if_pos ha] at h; simp at h
      · rw [if_neg ha] at h; omega
  · rw [if_neg hb] at h; omega
theorem setE_zero {b x y z : Int} {k : Bool} (h : setE b k x y z = 0) : knE b k = 0 := by
  unfold setE at h
  by_cases hk : knE b k = 0
  · exact hk
  · rw [if_neg hk] at h; exact absurd h hk
theorem excE_zero {b t x y : Int} {k : Bool} (h : excE b k t x y = 0) : knE b k = 0 := by
  unfold excE at h
  by_cases hk : knE b k = 0
  · exact hk
  · rw [if_neg hk] at h; exact absurd h hk
theorem rfE_zero {b m : Int} {k : Bool} (h : rfE b k m = 0) : knE b k = 0 := by
  unfold rfE at h
  by_cases hk : knE b k = 0
  · exact hk
  · rw [if_neg hk] at h; exact absurd h hk
theorem alE_zero {b t m : Int} {k : Bool} {r : PRec} (h : alE b k r t m = 0) : knE b k = 0 ∧ barred r.ex t = false ∧ alN (zP r.hi) r.hi.length (zC r.ch) r.ch.length t m = 0 := by
  unfold alE at h
  by_cases hk : knE b k = 0
  · rw [if_pos hk] at h
    refine ⟨hk, ?_⟩
    cases hb : barred r.ex t with
    | true => rw [hb] at h; simp at h
    | false => rw [hb] at h; exact ⟨rfl, by simpa using h⟩
  · rw [if_neg hk] at h; exact absurd h hk
/-- What a call does to the player's record. -/
def stpR (e : Int) (r : PRec) (d : PDo) : PRec :=
  if e = 0 then
    (if d.k = 1 then { r with ch := r.ch ++ [(d.t, d.x, d.y, d.z)] } else if d.k = 2 then { r with ex := r.ex ++ [(d.x, d.y)] }
    else if d.k = 4 then { r with hi := r.hi ++ [(d.t, d.x)] } else if d.k = 5 then { r with hi := r.hi ++ [(d.t, -d.x)] } else r)
  else r
theorem stp_err {S : PSt} {d : PDo} (h : errD S d ≠ 0) : stpD S d = S := by unfold stpD; rw [if_neg h]
theorem stp_read {S : PSt} {d : PDo} (h0 : d.k ≠ 0) (h1 : d.k ≠ 1) (h2 : d.k ≠ 2) (h4 : d.k ≠ 4) (h5 : d.k ≠ 5) : stpD S d = S := by
  unfold stpD
  rw [if_neg h0, if_neg h1, if_neg h2, if_neg h4, if_neg h5]
  split <;> rfl
theorem err_known {S : PSt} {d : PDo} (h : errD S d = 0) (h0 : d.k ≠ 0) : knw S d.id = true := by
  unfold errD errL at h
  rw [if_neg h0] at h
  split at h
  · exact (knE_zero (setE_zero h)).2
  · split at h
    · exact (knE_zero (excE_zero h)).2
    · split at h
      · exact (knE_zero (alE_zero h).1).2
      · split at h
        · exact (knE_zero (alE_zero h).1).2
        · split at h
          · exact (knE_zero (rfE_zero h)).2
          · exact (knE_zero h).2
theorem err_new {S : PSt} {d : PDo} (h : errD S d = 0) (h0 : d.k = 0) : knw S d.id = false := by
  unfold errD errL at h
  rw [if_pos h0] at h
  exact (regE_zero h).2
theorem stp_now (S : PSt) (d : PDo) : (stpD S d).now = S.now ∨ (stpD S d).now = d.t := by
  unfold stpD
  split
  · split
    · exact .inr rfl
    · split
      · exact .inr rfl
      · split
        · exact .inr rfl
        · split
          · exact .inr rfl
          · split
            · exact .inr rfl
            · exact .inl rfl
  · exact .inl rfl
theorem stp_other (S : PSt) (d : PDo) {j : Int} (hj : j ≠ d.id) : knw (stpD S d) j = knw S j ∧ thr (stpD S d) j = thr S j := by
  by_cases he : errD S d = 0
  · unfold stpD
    rw [if_pos he]
    by_cases h0 : d.k = 0
    · rw [if_pos h0]
      have hn := err_new he h0
      exact ⟨by rw [knw_add hn, decide_eq_false (fun c => hj c.symm), Bool.or_false], thr_add hn j⟩
    · have hk := err_known he h0
      rw [if_neg h0]
      split
      · exact ⟨knw_upd hk j, thr_upd_ne hk hj⟩
      · split
        · exact ⟨knw_upd hk j, thr_upd_ne hk hj⟩
        · split
          · exact ⟨knw_upd hk j, thr_upd_ne hk hj⟩
          · split
            · exact ⟨knw_upd hk j, thr_upd_ne hk hj⟩
            · exact ⟨rfl, rfl⟩
  · rw [stp_err he]; exact ⟨rfl, rfl⟩
theorem stp_self (S : PSt) (d : PDo) : knw (stpD S d) d.id = (knw S d.id || decide (errD S d = 0 ∧ d.k = 0)) ∧ thr (stpD S d) d.id = stpR (errD S d) (thr S d.id) d := by
  by_cases he : errD S d = 0
  · unfold stpD stpR
    rw [if_pos he, if_pos he]
    by_cases h0 : d.k = 0
    · have hn := err_new he h0
      rw [if_pos h0, if_neg (by omega), if_neg (by omega), if_neg (by omega), if_neg (by omega)]
      exact ⟨by rw [knw_add hn, decide_eq_true (show errD S d = 0 ∧ d.k = 0 from ⟨he, h0⟩), decide_eq_true rfl], thr_add hn _⟩
    · have hk := err_known he h0
      have hd : decide (errD S d = 0 ∧ d.k = 0) = false := decide_eq_false (fun c => h0 c.2)
      rw [if_neg h0, hd, Bool.or_false]
      split
      · exact ⟨knw_upd hk _, thr_upd hk⟩
      · split
        · exact ⟨knw_upd hk _, thr_upd hk⟩
        · split
          · exact ⟨knw_upd hk _, thr_upd hk⟩
          · split
            · exact ⟨knw_upd hk _, thr_upd hk⟩
            · exact ⟨rfl, rfl⟩
  · rw [stp_err he]
    unfold stpR
    rw [if_neg he, decide_eq_false (fun c => he c.1), Bool.or_false]
    exact ⟨rfl, rfl⟩
/-! PlayerApart. -/
structure Ap (id T : Int) (A B : PSt) : Prop where
  kn : knw A id = knw B id
  th : thr A id = thr B id
  na : A.now ≤ T ∨ A.now ≤ 0
  nb : B.now ≤ T ∨ B.now ≤ 0
theorem ap0 (id T : Int) : Ap id T ps0 ps0 := ⟨rfl, rfl, .inr (Int.le_refl _), .inr (Int.le_refl _)⟩
theorem now_le {S : PSt} {d : PDo} {T : Int} (h : S.now ≤ T ∨ S.now ≤ 0) (hT : T ≤ d.t) : (stpD S d).now ≤ d.t ∨ (stpD S d).now ≤ 0 := by
  rcases stp_now S d with h1 | h1 <;> omega
theorem Ap.other {id T : Int} {A B : PSt} {d : PDo} (h : Ap id T A B) (hT : T ≤ d.t) (hj : d.id ≠ id) : Ap id d.t (stpD A d) B := by
  obtain ⟨h1, h2⟩ := stp_other A d (j := id) (fun c => hj c.symm)
  exact ⟨h1.trans h.kn, h2.trans h.th, now_le h.na hT, by have := h.nb; omega⟩
theorem Ap.errs {id T : Int} {A B : PSt} {d : PDo} (h : Ap id T A B) (hT : T ≤ d.t) (hj : d.id = id) : errD A d = errD B d ∧ ∀ k, limD A d k = limD B d k := by
  subst hj
  unfold errD limD
  have ha := h.na
  have hb := h.nb
  rw [basE_now (by omega : A.now ≤ d.t ∨ A.now ≤ 0), basE_now (by omega : B.now ≤ d.t ∨ B.now ≤ 0), h.kn, h.th]
  exact ⟨rfl, fun _ => rfl⟩
theorem Ap.same {id T : Int} {A B : PSt} {d : PDo} (h : Ap id T A B) (hT : T ≤ d.t) (hj : d.id = id) : Ap id d.t (stpD A d) (stpD B d) := by
  have he := (h.errs hT hj).1
  subst hj
  obtain ⟨a1, a2⟩ := stp_self A d
  obtain ⟨b1, b2⟩ := stp_self B d
  exact ⟨by rw [a1, b1, he, h.kn], by rw [a2, b2, he, h.th], now_le h.na hT, now_le h.nb hT⟩
/-! PlayerProtects. -/
theorem lf1_le {l m s : Int} (hl : 0 ≤ l) : lf1 l m s ≤ l := by
  unfold lf1
  split
  · omega
  · split
    · omega
    · split <;> omega
theorem lf1_lim {l m s x : Int} (hm : m ≠ 0) (hx : 0 < x) (h : x ≤ lf1 l m s) : x ≤ m - s := by
  unfold lf1 at h
  rw [if_neg hm] at h
  split at h
  · omega
  · split at h <;> omega
theorem lf3_le {e s : Nat → Int} {x : Int} (hx : 0 < x) : ∀ n, x ≤ lf3 e s n → ∀ k, k < n → e k ≠ 0 → x ≤ e k - s k
  | 0, _, k, hk, _ => by omega
  | n + 1, h, k, hk, he => by
    by_cases c : k = n
    · subst c; exact lf1_lim he hx h
    · exact lf3_le hx n (Int.le_trans h (lf1_le (lf3_bd e s n).1)) k (by omega) he
theorem sm_congr {z z' : Nat → Nat → Int} {f t : Int} : ∀ {n : Nat}, (∀ i j, i < n → z i j = z' i j) → sm z f t n = sm z' f t n
  | 0, _ => rfl
  | n + 1, h => by
    show sm z f t n + _ = sm z' f t n + _
    rw [sm_congr (n := n) (fun i j hi => h i j (by omega)), h n 0 (by omega), h n 1 (by omega)]
theorem zP_snoc (l : List (Int × Int)) (p : Int × Int) (i j : Nat) (h : i < l.length) : zP (l ++ [p]) i j = zP l i j := by
  unfold zP; rw [List.getElem?_append_left h]
theorem zP_last (l : List (Int × Int)) (p : Int × Int) (j : Nat) : zP (l ++ [p]) l.length j = if j = 0 then p.1 else p.2 := by
  unfold zP; rw [List.getElem?_append_right (Nat.le_refl _)]; simp
theorem spN_snoc {l : List (Int × Int)} {t x k : Int} (ht : isT t = true) (hx : 0 ≤ x ∧ x ≤ 1000000000000) (h1 : 1 ≤ k) (h3 : k ≤ 3) :
    spN (zP (l ++ [(t, x)])) (l ++ [(t, x)]).length t k = clamp (sm (zP l) (perF t k) (perL t k) l.length + x) := by
  rw [← spN_yes ht]
  congr 1
  rw [List.length_append, List.length_singleton]
  have hp := per_in ht h1 h3
  have e0 : zP (l ++ [(t, x)]) l.length 0 = t := by rw [zP_last]; rfl
  have e1 : zP (l ++ [(t, x)]) l.length 1 = x := by rw [zP_last]; rfl
  rw [sm_yes (by rw [e0, e1]; simp [cnt]; omega), e1, sm_congr (fun i j hi => zP_snoc l _ i j hi)]
theorem charge_le {l : List (Int × Int)} {c : List Cg} {t x : Int} (h : alN (zP l) l.length (zC c) c.length t x = 0) (hx : 0 < x) (k : Nat) (hk : k < 3) (he : efN (zC c) c.length t k ≠ 0) :
    spN (zP (l ++ [(t, x)])) (l ++ [(t, x)]).length t ((k : Int) + 1) ≤ efN (zC c) c.length t k := by
  unfold alN at h
  by_cases hc : isT t = true ∧ 0 ≤ x ∧ x ≤ 1000000000000
  · rw [if_pos hc] at h
    have hl : x ≤ lfN (zP l) l.length (zC c) c.length t := by
      by_cases hlt : lfN (zP l) l.length (zC c) c.length t < x
      · rw [if_pos hlt] at h; omega
      · omega
    unfold lfN at hl
    rw [if_pos hc.1] at hl
    have h3 := lf3_le hx 3 hl k hk he
    unfold sp3 at h3
    have hb := efN_bd (zC c) c.length t k
    rw [spN_snoc hc.1 hc.2 (by omega) (by omega)]
    rw [← spN_yes hc.1] at h3
    generalize sm (zP l) (perF t ((k : Int) + 1)) (perL t ((k : Int) + 1)) l.length = y at *
    rcases clamp_ways (n := y) with ⟨c1, c2⟩ | ⟨c1, c2, c3⟩ | ⟨c1, c2, c3⟩ <;> rcases clamp_ways (n := y + x) with ⟨d1, d2⟩ | ⟨d1, d2, d3⟩ | ⟨d1, d2, d3⟩ <;> omega
  · rw [if_neg hc] at h; omega
theorem barred_not {l : List (Int × Int)} {t : Int} (h : barred l t = false) {p : Int × Int} (hp : p ∈ l) : ¬ (p.1 ≤ t ∧ t ≤ p.2) := fun c => by
  unfold barred at h
  have := List.any_eq_false.1 h p hp
  exact this (decide_eq_true c)
theorem charge_law {S : PSt} {d : PDo} (hk : d.k = 4) (he : errD S d = 0) :
    thr (stpD S d) d.id = { thr S d.id with hi := (thr S d.id).hi ++ [(d.t, d.x)] } ∧ knE (basE d.id d.t 0) (knw (stpD S d) d.id) = 0 ∧ barred (thr S d.id).ex d.t = false ∧
    (0 < d.x → ∀ k, k < 3 → efN (zC (thr S d.id).ch) (thr S d.id).ch.length d.t k ≠ 0 → spN (zP (thr (stpD S d) d.id).hi) (thr (stpD S d) d.id).hi.length d.t ((k : Int) + 1) ≤ efN (zC (thr S d.id).ch) (thr S d.id).ch.length d.t k) := by
  have h0 : d.k ≠ 0 := by omega
  have hkn := err_known he h0
  have ha : alE (basE d.id d.t S.now) (knw S d.id) (thr S d.id) d.t d.x = 0 := by
    have := he
    unfold errD errL at this
    rw [if_neg h0, if_neg (by omega), if_neg (by omega), if_neg (by omega), if_pos hk] at this
    exact this
  obtain ⟨a1, a2, a3⟩ := alE_zero ha
  have hth : thr (stpD S d) d.id = { thr S d.id with hi := (thr S d.id).hi ++ [(d.t, d.x)] } := by
    rw [(stp_self S d).2]
    unfold stpR
    rw [if_pos he, if_neg (by omega), if_neg (by omega), if_pos hk]
  refine ⟨hth, ?_, a2, fun hx k hk3 hne => ?_⟩
  · have hb := basE_iff.1 (knE_zero a1).1
    rw [(stp_self S d).1, hkn, basE_iff.2 ⟨hb.1, hb.2.1, hb.2.1.1⟩]
    rfl
  · rw [hth]
    exact charge_le a3 hx k hk3 hne
end Go.Proofs.YtainelkenkgppaaDoor
