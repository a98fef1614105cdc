/- The reference's object: find, known; what an append asks. -/
import Derived.Test.YtainelkenkgppaaDoorQo
import Derived.Test.YtainelkenkgppaaDoorPlw
namespace Go.Proofs.YtainelkenkgppaaDoor
open Go.ChangeShapes Go.WideShapes Go.ChangeAt Go.RowKit Go.Lott
open Go.Sort Go.Lott.Stb Go.Lott.Srt Go.Lott.Lm
theorem owns_slice {w : World} {base : Nat} {e : TypeId} {size n : Nat} {v : Value} {xs : List Value} (h : w.ownsRow base e size v n xs) : ∃ a c, v = .slice a n c := by
  rcases h.2 with ⟨hv, h0⟩ | ⟨g, cap, cur, hv, _⟩
  · exact ⟨none, 0, by rw [hv, h0]⟩
  · exact ⟨_, cap, hv⟩
section
variable {w w1 w2 : World} {B p : Nat} {τ : Rl} {S : PSt} {vl : Value} {V : Nat → Nat → Value}
theorem iOf_fnd {id : Int} (h : knw S id = true) : iOf S (fnd S.rs id) = id := by unfold iOf; rw [thr_at h]
theorem iOf_before {id : Int} {k : Nat} (hk : k < fnd S.rs id) (hl : k < S.rs.length) : iOf S k ≠ id := by
  unfold iOf
  rw [List.getElem?_eq_getElem hl]
  exact fnd_before S.rs id k hk _ (List.getElem?_eq_getElem hl)
/-- The cells of player k. -/
theorem QObj.cells (h : QObj w B τ p S vl V) {l cap : Nat} (hv : vl = .slice (some ⟨l, 0, none⟩) S.rs.length cap) {k : Nat} (hk : k < S.rs.length) :
    w.cell? ⟨l, k * 4, none⟩ = some (.int .i64 (iOf S k)) ∧ w.cell? ⟨l, k * 4 + 1, none⟩ = some (V k 0) ∧ w.cell? ⟨l, k * 4 + 1 + 1, none⟩ = some (V k 1) ∧ w.cell? ⟨l, k * 4 + 1 + 2, none⟩ = some (V k 2) := by
  have hr := h.rl
  rw [hv] at hr
  obtain ⟨h1, h2, h3, h4⟩ := flO_get S V S.rs.length k hk
  refine ⟨?_, ?_, ?_, ?_⟩
  · rw [hr.cellAt _ (by omega), h1]
  · rw [hr.cellAt _ (by omega), h2]
  · rw [hr.cellAt _ (by omega), h3]
  · rw [hr.cellAt _ (by omega), h4]
theorem QObj.form (h : QObj w B τ p S vl V) (hn : 0 < S.rs.length) : ∃ l cap, vl = .slice (some ⟨l, 0, none⟩) S.rs.length cap ∧ l < w.heap.size := by
  obtain ⟨g, cap, hv, _, hl⟩ := h.rl.form hn
  exact ⟨g, cap, hv, hl⟩
def qfR (S : PSt) (id : Int) : Int := if knw S id then (fnd S.rs id : Int) else -1
set_option maxHeartbeats 2000000 in
theorem qfind_any (h : QObj w B τ p S vl V) (hn : S.rs.length ≤ 1000) (id : Int) : Calls Tryd.prog 74 #[.pointer (some ⟨p, 0, none⟩), .int .i64 id] w (RetS (.int .i64 (qfR S id)) w) := by
  obtain ⟨a, c, hv⟩ := owns_slice h.rl
  have c0 := h.cp.cell 0
  rw [hv] at c0
  simp at c0
  have HO := Lib.hid h
  obtain ⟨n, hnn⟩ : ∃ n, n = S.rs.length := ⟨_, rfl⟩
  obtain ⟨K, hK⟩ : ∃ K, K = fnd S.rs id := ⟨_, rfl⟩
  have hKn : K ≤ n := by rw [hK, hnn]; exact fnd_le _ _
  rw [← hnn] at c0 hn
  have HN := Lib.hid hnn
  have HK := Lib.hid hK
  have HV := Lib.hid hv
  clear h hv hnn hK
  go_enter Tryd.func74, Tryd.ntmps74
  go_wp2
  go_loop [5] (fun i => ∃ k : Nat, k ≤ K ∧ i = .int .i64 k) (fun i => n - (intOf i).toNat)
  case atStart => exact ⟨0, by omega, by go_num⟩
  case round =>
    obtain ⟨k, hk, rfl⟩ := hrel
    by_cases hlt : k < n
    · obtain ⟨l, cap, hv2, hll⟩ := HO.out.form (by rw [← HN.out]; omega)
      have hva := HV.out.symm.trans hv2
      injection hva with ha _ _
      subst ha
      have hc := (HO.out.cells hv2 (k := k) (by rw [← HN.out]; exact hlt)).1
      by_cases hkK : k < K
      · have hne : (iOf S k == id) = false := beq_eq_false_iff_ne.2 (iOf_before (by rw [← HK.out]; exact hkK) (by rw [← HN.out]; exact hlt))
        clear hv2
        go_wp2
        go_round
        case rel => exact ⟨k + 1, hkK, by go_num⟩
        case measure => simp [intOf]; omega
      · obtain rfl : k = K := by omega
        have hkn : knw S id = true := knw_iff.2 (by rw [← HK.out, ← HN.out]; exact hlt)
        have he : (iOf S k == id) = true := by rw [HK.out, iOf_fnd hkn]; simp
        have HR := Lib.hid (show qfR S id = (k : Int) by unfold qfR; rw [hkn, HK.out]; rfl)
        clear hv2 hkn
        go_wp2
        go_ret
        exact ⟨ret_int HR.out.symm, rfl⟩
    · obtain rfl : k = n := by omega
      have hkn : knw S id = false := by
        cases hkk : knw S id with
        | false => rfl
        | true => have := knw_iff.1 hkk; rw [← HK.out, ← HN.out] at this; omega
      have HR := Lib.hid (show qfR S id = -1 by unfold qfR; rw [hkn]; rfl)
      go_wp2
      go_ret
      exact ⟨ret_int HR.out.symm, rfl⟩
theorem qknown_ok (h : QObj w B τ p S vl V) (hn : S.rs.length ≤ 1000) {id t : Int} (hk : knE (basE id t S.now) (knw S id) = 0) :
    Calls Tryd.prog 75 #[.pointer (some ⟨p, 0, none⟩), .int .i64 id, .int .i64 t] w (RetS (.tuple #[.int .i64 (fnd S.rs id : Int), .int .i64 0]) w) := by
  obtain ⟨hb, hkn⟩ := knE_zero hk
  have c1 := h.cp.cell 1
  simp at c1
  have HB := Lib.hid (hb ▸ qfirst_any id t S.now w)
  have hf := qfind_any h hn id
  unfold qfR at hf
  rw [hkn, if_pos rfl] at hf
  have HF := Lib.hid hf
  have h0 : (0 : Int) ≤ (fnd S.rs id : Int) := by omega
  clear hk hb hkn h hf
  go_enter Tryd.func75, Tryd.ntmps75
  go_wp2_with (first
    | (go_at_call 72; refine HB.out.mono ?_; rintro e w' ⟨rfl, rfl⟩)
    | (go_at_call 74; refine HF.out.mono ?_; rintro e w' ⟨rfl, rfl⟩))
  go_ret2
  exact ⟨rfl, rfl⟩
theorem qknown_no (h : QObj w B τ p S vl V) (hn : S.rs.length ≤ 1000) {id t e : Int} (hk : knE (basE id t S.now) (knw S id) = e) (he : e ≠ 0) :
    Calls Tryd.prog 75 #[.pointer (some ⟨p, 0, none⟩), .int .i64 id, .int .i64 t] w (RetS (.tuple #[.int .i64 (-1), .int .i64 e]) w) := by
  have c1 := h.cp.cell 1
  simp at c1
  rcases basE_two id t S.now with hb | hb
  · have hkn : knw S id = false := by
      cases hkk : knw S id with
      | false => rfl
      | true => rw [hb, hkk] at hk; exact absurd hk.symm he
    obtain rfl : e = 5 := by rw [← hk, hb, hkn]; rfl
    have HB := Lib.hid (hb ▸ qfirst_any id t S.now w)
    have hf := qfind_any h hn id
    unfold qfR at hf
    rw [hkn, if_neg (by decide)] at hf
    have HF := Lib.hid hf
    clear hk hb hkn he h hf
    go_enter Tryd.func75, Tryd.ntmps75
    go_wp2_with (first
      | (go_at_call 72; refine HB.out.mono ?_; rintro e w' ⟨rfl, rfl⟩)
      | (go_at_call 74; refine HF.out.mono ?_; rintro e w' ⟨rfl, rfl⟩))
    go_ret2
    exact ⟨rfl, rfl⟩
  · obtain rfl : e = 2 := by rw [← hk, hb]; rfl
    have HB := Lib.hid (hb ▸ qfirst_any id t S.now w)
    clear hk hb he h
    go_enter Tryd.func75, Tryd.ntmps75
    go_wp2_with (go_at_call 72; refine HB.out.mono ?_; rintro e w' ⟨rfl, rfl⟩)
    go_ret2
    exact ⟨rfl, rfl⟩
end
/-- What an append to a player's row asks of the world. -/
structure QF (w : World) (l o p : Nat) (vl v : Value) (now : Int) : Prop where
  r0 : w.cell? ⟨l, o, none⟩ = some v
  rf : w.frozen? ⟨l, o, none⟩ = false
  rl : l < w.heap.size
  p0 : w.cell? ⟨p, 0, none⟩ = some vl
  p1 : w.cell? ⟨p, 1, none⟩ = some (.int .i64 now)
  pf : w.frozen? ⟨p, 1, none⟩ = false
  pl : p < w.heap.size
  rp : l ≠ p
  nr : some l ≠ v.ownBlock
  np : some p ≠ v.ownBlock
theorem QF.fr {w w1 : World} {l o p : Nat} {vl v : Value} {now : Int} (h : QF w l o p vl v now) (hb : Below w.heap.size w w1) : QF w1 l o p vl v now :=
  ⟨(hb.cell (p := ⟨l, o, none⟩) h.rl).trans h.r0, (hb.frozen (p := ⟨l, o, none⟩) h.rl).trans h.rf, Nat.lt_of_lt_of_le h.rl hb.size, (hb.cell (p := ⟨p, 0, none⟩) h.pl).trans h.p0, (hb.cell (p := ⟨p, 1, none⟩) h.pl).trans h.p1, (hb.frozen (p := ⟨p, 1, none⟩) h.pl).trans h.pf, Nat.lt_of_lt_of_le h.pl hb.size, h.rp, h.nr, h.np⟩
theorem QF.grow {w w1 : World} {l o p : Nat} {vl v : Value} {now : Int} (h : QF w l o p vl v now) (hg : w.grownBy w1 v.ownBlock) : QF w1 l o p vl v now :=
  ⟨(hg.cell_far ⟨l, o, none⟩ h.rl h.nr).trans h.r0, (hg.frozen_far ⟨l, o, none⟩ h.rl h.nr).trans h.rf, Nat.lt_of_lt_of_le h.rl hg.size, (hg.cell_far ⟨p, 0, none⟩ h.pl h.np).trans h.p0, (hg.cell_far ⟨p, 1, none⟩ h.pl h.np).trans h.p1, (hg.frozen_far ⟨p, 1, none⟩ h.pl h.np).trans h.pf, Nat.lt_of_lt_of_le h.pl hg.size, h.rp, h.nr, h.np⟩
section
variable {w w1 w2 : World} {B p : Nat} {τ : Rl} {S : PSt} {vl : Value} {V : Nat → Nat → Value}
theorem QObj.facts (h : QObj w B τ p S vl V) {id : Int} (hk : knw S id = true) {f : Nat} (hf : f < 3) {l cap : Nat} (hvl : vl = .slice (some ⟨l, 0, none⟩) S.rs.length cap) {v : Value} (hv : v = V (fnd S.rs id) f) :
    QF w l (fnd S.rs id * 4 + (1 + f)) p vl v S.now := by
  have hkl := knw_iff.1 hk
  have tl : τ l = some (1, 0) := h.tl l (by rw [hvl]; rfl)
  have ht : ∀ x u, τ x = some u → u ≠ (3 + f, fnd S.rs id) → some x ≠ v.ownBlock := fun x u hx hu c => by
    have := h.tv _ f x hkl hf (by rw [← hv]; exact c.symm)
    rw [hx] at this
    exact hu (Option.some.inj this)
  have hr := h.rl
  rw [hvl] at hr
  refine ⟨?_, hr.frozenAt _, (h.low l (by rw [tl]; simp)).2, h.cp.cell 0, h.cp.cell 1, h.cp.free 1, h.cp.lt, fun c => by rw [c, h.tp] at tl; simp at tl, ht l _ tl (by simp; omega), ht p _ h.tp (by simp; omega)⟩
  obtain ⟨_, c1, c2, c3⟩ := h.cells hvl hkl
  rw [hv]
  rcases (show f = 0 ∨ f = 1 ∨ f = 2 by omega) with rfl | rfl | rfl
  · exact c1
  · exact c2
  · exact c3
theorem QObj.done (h : QObj w2 B τ p S vl V) (hb : Below w.heap.size w w2) {id t : Int} (hk : knw S id = true) {f : Nat} (hf : f < 3) {l cl g n cap o : Nat} {v : Value} (hvl : vl = .slice (some ⟨l, 0, none⟩) S.rs.length cl) (ho' : o = fnd S.rs id * 4 + (1 + f)) (hv : v = V (fnd S.rs id) f)
    {wA : World} (hA : Below w2.heap.size w2 wA) (hsz : wA.heap.size = w2.heap.size + 1) (hg : wA.grownBy w1 v.ownBlock) (hat : v.ownBlock = some g ∨ g = w2.heap.size + 1) (hlt : g < w1.heap.size) {r : PRec} (hr : RecF w1 B f r (.slice (some ⟨g, 0, none⟩) n cap))
    (ho : ∀ f', f' < 3 → f' ≠ f → ∀ w v, RecF w B f' (thr S id) v → RecF w B f' r v) :
    ∃ τ', QO ((w1.setCell ⟨l, o, none⟩ (.slice (some ⟨g, 0, none⟩) n cap)).setCell ⟨p, 1, none⟩ (.int .i64 t)) B τ' p (upd S id r t) ∧ Fr τ w ((w1.setCell ⟨l, o, none⟩ (.slice (some ⟨g, 0, none⟩) n cap)).setCell ⟨p, 1, none⟩ (.int .i64 t)) ∧ Gr τ τ' w.heap.size := by
  have hkl := knw_iff.1 hk
  have h2 := h.below hA
  subst ho'
  rw [hv] at hg hat
  have hps := h2.push hk (id := id) (t := t) hf hvl hg (v := .slice (some ⟨g, 0, none⟩) n cap) (g := g) rfl (by rw [hsz]; exact hat) (hr.lt g rfl).1 hlt hr ho
  refine ⟨_, ⟨_, _, hps⟩, ?_, Gr.tg ?_⟩
  · refine Fr.setCell (Fr.setCell (Fr.grown (((Fr.of_below hb).then hA)) hg fun k hk' => .inl ?_) (.inl ?_) _) (.inl ?_) _
    · rw [h.tv _ f k hkl hf hk']; simp
    · rw [h.tl l (by rw [hvl]; rfl)]; simp
    · rw [h.tp]; simp
  · rcases hat with ha | ha
    · exact .inl (by rw [h.tv _ f g hkl hf ha]; simp)
    · exact .inr (by have := hb.size; omega)
theorem QObj.regd (h : QObj w2 B τ p S vl V) (hb : Below w.heap.size w w2) {id t : Int} {l cap : Nat} {wA : World} (hA : Below w2.heap.size w2 wA) (hsz : wA.heap.size = w2.heap.size + 1)
    (hg : wA.grownBy w1 vl.ownBlock) (hat : vl.ownBlock = some l ∨ l = w2.heap.size + 1) (hlt : l < w1.heap.size)
    (hr : w1.ownsRow B 99 4 (.slice (some ⟨l, 0, none⟩) (S.rs.length + 1) cap) (S.rs.length + 1) (flO S V S.rs.length ++ [.int .i64 id, .slice none 0 0, .slice none 0 0, .slice none 0 0])) :
    ∃ τ', QO ((w1.setCell ⟨p, 0, none⟩ (.slice (some ⟨l, 0, none⟩) (S.rs.length + 1) cap)).setCell ⟨p, 1, none⟩ (.int .i64 t)) B τ' p (add S id t) ∧ Fr τ w ((w1.setCell ⟨p, 0, none⟩ (.slice (some ⟨l, 0, none⟩) (S.rs.length + 1) cap)).setCell ⟨p, 1, none⟩ (.int .i64 t)) ∧ Gr τ τ' w.heap.size := by
  have h2 := h.below hA
  have hps := h2.reg (id := id) (t := t) hg (by rw [hsz]; exact hat) (hr.lt l rfl).1 hlt hr
  refine ⟨_, ⟨_, _, hps⟩, ?_, Gr.tg ?_⟩
  · refine Fr.setCell (Fr.setCell (Fr.grown (((Fr.of_below hb).then hA)) hg fun k hk' => .inl ?_) (.inl ?_) _) (.inl ?_) _
    · rw [h.tl k hk']; simp
    · rw [h.tp]; simp
    · rw [h.tp]; simp
  · rcases hat with ha | ha
    · exact .inl (by rw [h.tl l ha]; simp)
    · exact .inr (by have := hb.size; omega)
end
end Go.Proofs.YtainelkenkgppaaDoor
