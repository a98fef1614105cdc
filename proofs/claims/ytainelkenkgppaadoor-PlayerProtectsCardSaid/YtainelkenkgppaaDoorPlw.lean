/- The program's object: its small functions; what a call leaves. -/
import Derived.Test.YtainelkenkgppaaDoorPlo
import Derived.Test.YtainelkenkgppaaDoorPlb
import Derived.Test.YtainelkenkgppaaDoorLfb
namespace Go.Proofs.YtainelkenkgppaaDoor
open Go.ChangeShapes Go.WideShapes Go.ChangeAt Go.RowKit Go.Lott
open Go.Sort Go.Lott.Stb Go.Lott.Srt Go.Lott.Lm
set_option maxHeartbeats 1000000 in
theorem basic_any (id t least : Int) (w : World) : Calls Tryd.prog 57 #[.int .i64 id, .int .i64 t, .int .i64 least] w (RetS (.int .i64 (basE id t least)) w) := by
  have h := basE_iff (id := id) (t := t) (least := least)
  have h2 := basE_two id t least
  by_cases c1 : id < 1
  · have HV := Lib.hid (show 2 = basE id t least by omega)
    clear h h2
    go_enter Tryd.func57, Tryd.ntmps57
    go_wp2
    go_ret
    exact ⟨ret_int HV.out, rfl⟩
  by_cases c2 : 128 < id
  · have HV := Lib.hid (show 2 = basE id t least by omega)
    clear h h2
    go_enter Tryd.func57, Tryd.ntmps57
    go_wp2
    go_ret
    exact ⟨ret_int HV.out, rfl⟩
  by_cases c3 : t < 0
  · have HV := Lib.hid (show 2 = basE id t least by omega)
    have c2' : id ≤ 128 := by omega
    have c1' : 1 ≤ id := by omega
    clear h h2 c1 c2
    go_enter Tryd.func57, Tryd.ntmps57
    go_wp2
    go_ret
    exact ⟨ret_int HV.out, rfl⟩
  have c3' : 0 ≤ t := by omega
  have c2' : id ≤ 128 := by omega
  have c1' : 1 ≤ id := by omega
  clear c1 c2 c3
  by_cases c4 : 1073741824 < t
  · have HV := Lib.hid (show 2 = basE id t least by omega)
    clear h h2
    go_enter Tryd.func57, Tryd.ntmps57
    go_wp2
    go_ret
    exact ⟨ret_int HV.out, rfl⟩
  have c4' : t ≤ 1073741824 := by omega
  clear c4
  by_cases c5 : t < least
  · have HV := Lib.hid (show 2 = basE id t least by omega)
    clear h h2
    go_enter Tryd.func57, Tryd.ntmps57
    go_wp2
    go_ret
    exact ⟨ret_int HV.out, rfl⟩
  · have HV := Lib.hid (show 0 = basE id t least by omega)
    have c5' : least ≤ t := by omega
    clear h h2 c5
    go_enter Tryd.func57, Tryd.ntmps57
    go_wp2
    go_ret
    exact ⟨ret_int HV.out, rfl⟩
set_option maxHeartbeats 1000000 in
theorem qfirst_any (id t least : Int) (w : World) : Calls Tryd.prog 72 #[.int .i64 id, .int .i64 t, .int .i64 least] w (RetS (.int .i64 (basE id t least)) w) := by
  have h := basE_iff (id := id) (t := t) (least := least)
  have h2 := basE_two id t least
  by_cases c1 : id < 1
  · have HV := Lib.hid (show 2 = basE id t least by omega)
    clear h h2
    go_enter Tryd.func72, Tryd.ntmps72
    go_wp2
    go_ret
    exact ⟨ret_int HV.out, rfl⟩
  by_cases c2 : 128 < id
  · have HV := Lib.hid (show 2 = basE id t least by omega)
    clear h h2
    go_enter Tryd.func72, Tryd.ntmps72
    go_wp2
    go_ret
    exact ⟨ret_int HV.out, rfl⟩
  by_cases c3 : t < 0
  · have HV := Lib.hid (show 2 = basE id t least by omega)
    have c2' : id ≤ 128 := by omega
    have c1' : 1 ≤ id := by omega
    clear h h2 c1 c2
    go_enter Tryd.func72, Tryd.ntmps72
    go_wp2
    go_ret
    exact ⟨ret_int HV.out, rfl⟩
  have c3' : 0 ≤ t := by omega
  have c2' : id ≤ 128 := by omega
  have c1' : 1 ≤ id := by omega
  clear c1 c2 c3
  by_cases c4 : 1073741824 < t
  · have HV := Lib.hid (show 2 = basE id t least by omega)
    clear h h2
    go_enter Tryd.func72, Tryd.ntmps72
    go_wp2
    go_ret
    exact ⟨ret_int HV.out, rfl⟩
  have c4' : t ≤ 1073741824 := by omega
  clear c4
  by_cases c5 : t < least
  · have HV := Lib.hid (show 2 = basE id t least by omega)
    clear h h2
    go_enter Tryd.func72, Tryd.ntmps72
    go_wp2
    go_ret
    exact ⟨ret_int HV.out, rfl⟩
  · have HV := Lib.hid (show 0 = basE id t least by omega)
    have c5' : least ≤ t := by omega
    clear h h2 c5
    go_enter Tryd.func72, Tryd.ntmps72
    go_wp2
    go_ret
    exact ⟨ret_int HV.out, rfl⟩
section
variable {w : World} {B p m : Nat} {τ : Rl} {S : PSt} {D : DataW Unit} {rb : Nat → Nat} {V : Nat → Nat → Value}
theorem zeroR (w : World) : (zeroValue 85).run Tryd.prog w = .ok (.pointer none) w := by kernel_rfl
theorem PObj.look_yes (h : PObj w B τ p S m D rb V) {id : Int} (hk : knw S id = true) (hw : (Lit.int .i64 id).wf = true) :
    (Instr.lookup 77 (.map (some m)) (.int .i64 id) true).run Tryd.prog w = .ok (.tuple #[.pointer (some ⟨rb (fnd S.rs id), 0, none⟩), .bool true]) w := by
  obtain ⟨v, ps, hrun, hv⟩ := h.mp.look_ok keyI Tryd.underlying77 (zeroR w) (zd := zN) (zp := []) rfl (Go.Maps.keyOf_int_mk Tryd.underlying3 hw)
  rw [h.hs, hk] at hrun
  rw [h.ak id hk] at hv
  rw [ptrR_inv hv] at hrun
  exact hrun
theorem PObj.look_no (h : PObj w B τ p S m D rb V) {id : Int} (hk : knw S id = false) (hw : (Lit.int .i64 id).wf = true) :
    (Instr.lookup 77 (.map (some m)) (.int .i64 id) true).run Tryd.prog w = .ok (.tuple #[.pointer none, .bool false]) w := by
  obtain ⟨v, ps, hrun, hv⟩ := h.mp.look_ok keyI Tryd.underlying77 (zeroR w) (zd := zN) (zp := []) rfl (Go.Maps.keyOf_int_mk Tryd.underlying3 hw)
  rw [h.hs, hk] at hrun
  rw [Go.Maps.atKey_of_not_has (by rw [h.hs]; exact hk)] at hv
  rw [ptrR_nil hv] at hrun
  exact hrun
theorem wf_id {id t least : Int} (h : basE id t least = 0) : (Lit.int .i64 id).wf = true := WalkArith.wf_i64 (by have := basE_iff.1 h; omega)
theorem pfind_ok (h : PObj w B τ p S m D rb V) {id t : Int} (hk : knE (basE id t S.now) (knw S id) = 0) :
    Calls Tryd.prog 69 #[.pointer (some ⟨p, 0, none⟩), .int .i64 id, .int .i64 t] w (RetS (.tuple #[.pointer (some ⟨rb (fnd S.rs id), 0, none⟩), .int .i64 0]) w) := by
  obtain ⟨hb, hkn⟩ := knE_zero hk
  have hl := h.look_yes hkn (wf_id hb)
  have c0 := h.cp.cell 0
  have c1 := h.cp.cell 1
  simp at c0 c1
  have HB := Lib.hid (hb ▸ basic_any id t S.now w)
  clear hk hb hkn
  go_enter Tryd.func69, Tryd.ntmps69
  go_wp2_with (go_at_call 57; refine HB.out.mono ?_; rintro e w' ⟨rfl, rfl⟩)
  go_ret2
  exact ⟨rfl, rfl⟩
theorem pfind_no (h : PObj w B τ p S m D rb V) {id t e : Int} (hk : knE (basE id t S.now) (knw S id) = e) (he : e ≠ 0) :
    Calls Tryd.prog 69 #[.pointer (some ⟨p, 0, none⟩), .int .i64 id, .int .i64 t] w (RetS (.tuple #[.pointer none, .int .i64 e]) w) := by
  have c0 := h.cp.cell 0
  have c1 := h.cp.cell 1
  simp at c0 c1
  rcases basE_two id t S.now with hb | hb
  · have hkn : knw S id = false := by
      cases hkk : knw S id with
      | false => rfl
      | true => rw [hb, hkk] at hk; exact absurd hk.symm he
    obtain rfl : e = 5 := by rw [← hk, hb, hkn]; rfl
    have hl := h.look_no hkn (wf_id hb)
    have HB := Lib.hid (hb ▸ basic_any id t S.now w)
    clear hk hb hkn he
    go_enter Tryd.func69, Tryd.ntmps69
    go_wp2_with (go_at_call 57; refine HB.out.mono ?_; rintro e w' ⟨rfl, rfl⟩)
    go_ret2
    exact ⟨rfl, rfl⟩
  · obtain rfl : e = 2 := by rw [← hk, hb]; rfl
    have HB := Lib.hid (hb ▸ basic_any id t S.now w)
    clear hk hb he
    go_enter Tryd.func69, Tryd.ntmps69
    go_wp2_with (go_at_call 57; refine HB.out.mono ?_; rintro e w' ⟨rfl, rfl⟩)
    go_ret2
    exact ⟨rfl, rfl⟩
theorem pfind_nil (id t : Int) (w : World) : Calls Tryd.prog 69 #[.pointer none, .int .i64 id, .int .i64 t] w (RetS (.tuple #[.pointer none, .int .i64 5]) w) := by
  go_enter Tryd.func69, Tryd.ntmps69
  go_wp2
  go_ret2
  exact ⟨rfl, rfl⟩
end
/-- What a call leaves: the answer, the object in its new state, and what may have turned. -/
def Lv (O : World → Rl → PSt → Prop) (w : World) (τ : Rl) (S : PSt) (v : Value) (e : Ending) (w' : World) : Prop := e = .returned v ∧ ∃ τ', O w' τ' S ∧ Fr τ w w' ∧ Gr τ τ' w.heap.size
theorem Lv.same {O : World → Rl → PSt → Prop} {w w' : World} {τ : Rl} {S : PSt} {v : Value} {e : Ending} (hO : O w' τ S) (he : e = .returned v) (hb : Below w.heap.size w w') : Lv O w τ S v e w' :=
  ⟨he, τ, hO, Fr.of_below hb, Gr.refl _ _⟩
/-- What an append to a record's row asks of the world. -/
structure PF (w : World) (B R p f : Nat) (v : Value) (now : Int) : Prop where
  r0 : w.cell? ⟨R, f, none⟩ = some v
  rf : w.frozen? ⟨R, f, none⟩ = false
  rl : R < w.heap.size
  p1 : w.cell? ⟨p, 1, none⟩ = some (.int .i64 now)
  pf : w.frozen? ⟨p, 1, none⟩ = false
  pl : p < w.heap.size
  rp : R ≠ p
  nr : some R ≠ v.ownBlock
  np : some p ≠ v.ownBlock
theorem PF.fr {w w1 : World} {B R p f : Nat} {v : Value} {now : Int} (h : PF w B R p f v now) (hb : Below w.heap.size w w1) : PF w1 B R p f v now :=
  ⟨(hb.cell (p := ⟨R, f, none⟩) h.rl).trans h.r0, (hb.frozen (p := ⟨R, f, none⟩) h.rl).trans h.rf, Nat.lt_of_lt_of_le h.rl hb.size, (hb.cell (p := ⟨p, 1, none⟩) h.pl).trans h.p1, (hb.frozen (p := ⟨p, 1, none⟩) h.pl).trans h.pf, Nat.lt_of_lt_of_le h.pl hb.size, h.rp, h.nr, h.np⟩
theorem PF.grow {w w1 : World} {B R p f : Nat} {v : Value} {now : Int} (h : PF w B R p f v now) (hg : w.grownBy w1 v.ownBlock) : PF w1 B R p f v now :=
  ⟨(hg.cell_far ⟨R, f, none⟩ h.rl h.nr).trans h.r0, (hg.frozen_far ⟨R, f, none⟩ h.rl h.nr).trans h.rf, Nat.lt_of_lt_of_le h.rl hg.size, (hg.cell_far ⟨p, 1, none⟩ h.pl h.np).trans h.p1, (hg.frozen_far ⟨p, 1, none⟩ h.pl h.np).trans h.pf, Nat.lt_of_lt_of_le h.pl hg.size, h.rp, h.nr, h.np⟩
section
variable {w w1 w2 : World} {B p m : Nat} {τ : Rl} {S : PSt} {D : DataW Unit} {rb : Nat → Nat} {V : Nat → Nat → Value}
theorem PObj.facts (h : PObj w B τ p S m D rb V) {id : Int} (hk : knw S id = true) {f : Nat} (hf : f < 3) {R : Nat} {v : Value} (hR : R = rb (fnd S.rs id)) (hv : v = V (fnd S.rs id) f) : PF w B R p f v S.now := by
  have hkl := knw_iff.1 hk
  have hc := h.cr _ hkl
  have tr := h.tr _ hkl
  rw [← hR] at hc tr
  have ht : ∀ x u, τ x = some u → u ≠ (3 + f, fnd S.rs id) → some x ≠ v.ownBlock := fun x u hx hu c => by
    have := h.tv _ f x hkl hf (by rw [← hv]; exact c.symm)
    rw [hx] at this
    exact hu (Option.some.inj this)
  refine ⟨?_, hc.free f, hc.lt, h.cp.cell 1, h.cp.free 1, h.cp.lt, fun c => by rw [c, h.tp] at tr; simp at tr, ht R _ tr (by simp; omega), ht p _ h.tp (by simp; omega)⟩
  rw [hc.cell, hv]
  rcases (show f = 0 ∨ f = 1 ∨ f = 2 by omega) with rfl | rfl | rfl <;> rfl
theorem PObj.done (h : PObj w2 B τ p S m D rb V) (hb : Below w.heap.size w w2) {id t : Int} (hk : knw S id = true) {f : Nat} (hf : f < 3) {R g n cap : Nat} {v : Value} (hR : R = rb (fnd S.rs id)) (hv : v = V (fnd S.rs id) f)
    {wA : World} (hA : Below w2.heap.size w2 wA) (hsz : wA.heap.size = w2.heap.size + 1) (hg : wA.grownBy w1 v.ownBlock) (hat : v.ownBlock = some g ∨ g = w2.heap.size + 1) (hlt : g < w1.heap.size) {r : PRec} (hr : RecF w1 B f r (.slice (some ⟨g, 0, none⟩) n cap))
    (ho : ∀ f', f' < 3 → f' ≠ f → ∀ w v, RecF w B f' (thr S id) v → RecF w B f' r v) :
    ∃ τ', PO ((w1.setCell ⟨R, f, none⟩ (.slice (some ⟨g, 0, none⟩) n cap)).setCell ⟨p, 1, none⟩ (.int .i64 t)) B τ' p (upd S id r t) ∧ Fr τ w ((w1.setCell ⟨R, f, none⟩ (.slice (some ⟨g, 0, none⟩) n cap)).setCell ⟨p, 1, none⟩ (.int .i64 t)) ∧ Gr τ τ' w.heap.size := by
  have hkl := knw_iff.1 hk
  have h2 := h.below hA
  subst hR
  rw [hv] at hg hat
  have hps := h2.push hk (id := id) (t := t) hf hg (v := .slice (some ⟨g, 0, none⟩) n cap) (g := g) rfl (by rw [hsz]; exact hat) (hr.lt g rfl).1 hlt hr ho
  refine ⟨_, ⟨_, _, _, _, hps⟩, ?_, Gr.tg ?_⟩
  · refine Fr.setCell (Fr.setCell (Fr.grown (((Fr.of_below hb).then hA)) hg fun k hk' => .inl ?_) (.inl ?_) _) (.inl ?_) _
    · rw [h.tv _ f k hkl hf hk']; simp
    · rw [h.tr _ hkl]; simp
    · rw [h.tp]; simp
  · rcases hat with ha | ha
    · exact .inl (by rw [h.tv _ f g hkl hf ha]; simp)
    · exact .inr (by have := hb.size; omega)
end
theorem stp1 {S : PSt} {id t x y z : Int} (h : errD S ⟨1, id, t, x, y, z⟩ = 0) : stpD S ⟨1, id, t, x, y, z⟩ = upd S id { thr S id with ch := (thr S id).ch ++ [(t, x, y, z)] } t := by
  unfold stpD; rw [if_pos h]; rfl
theorem stp2 {S : PSt} {id t x y z : Int} (h : errD S ⟨2, id, t, x, y, z⟩ = 0) : stpD S ⟨2, id, t, x, y, z⟩ = upd S id { thr S id with ex := (thr S id).ex ++ [(x, y)] } t := by
  unfold stpD; rw [if_pos h]; rfl
theorem stp4 {S : PSt} {id t x y z : Int} (h : errD S ⟨4, id, t, x, y, z⟩ = 0) : stpD S ⟨4, id, t, x, y, z⟩ = upd S id { thr S id with hi := (thr S id).hi ++ [(t, x)] } t := by
  unfold stpD; rw [if_pos h]; rfl
theorem stp5 {S : PSt} {id t x y z : Int} (h : errD S ⟨5, id, t, x, y, z⟩ = 0) : stpD S ⟨5, id, t, x, y, z⟩ = upd S id { thr S id with hi := (thr S id).hi ++ [(t, -x)] } t := by
  unfold stpD; rw [if_pos h]; rfl
theorem recF_ch {w : World} {B : Nat} {r : PRec} {v : Value} {c : Cg} (h : w.ownsRow B 30 4 v (r.ch.length + 1) (flC r.ch ++ [.int .i64 c.1, .int .i64 c.2.1, .int .i64 c.2.2.1, .int .i64 c.2.2.2])) : RecF w B 0 { r with ch := r.ch ++ [c] } v := by
  show w.ownsRow B 30 4 v (r.ch ++ [c]).length (flC (r.ch ++ [c]))
  rw [List.length_append, flC_snoc]; exact h
theorem recF_ex {w : World} {B : Nat} {r : PRec} {v : Value} {c : Int × Int} (h : w.ownsRow B 58 2 v (r.ex.length + 1) (flP r.ex ++ [.int .i64 c.1, .int .i64 c.2])) : RecF w B 1 { r with ex := r.ex ++ [c] } v := by
  show w.ownsRow B 58 2 v (r.ex ++ [c]).length (flP (r.ex ++ [c]))
  rw [List.length_append, flP_snoc]; exact h
theorem recF_hi {w : World} {B : Nat} {r : PRec} {v : Value} {c : Int × Int} (h : w.ownsRow B 26 2 v (r.hi.length + 1) (flP r.hi ++ [.int .i64 c.1, .int .i64 c.2])) : RecF w B 2 { r with hi := r.hi ++ [c] } v := by
  show w.ownsRow B 26 2 v (r.hi ++ [c]).length (flP (r.hi ++ [c]))
  rw [List.length_append, flP_snoc]; exact h
theorem keep_ch {r : PRec} {l : List Cg} {B : Nat} (f' : Nat) (h3 : f' < 3) (hf : f' ≠ 0) (w : World) (v : Value) (h : RecF w B f' r v) : RecF w B f' { r with ch := l } v := by
  rcases (show f' = 1 ∨ f' = 2 by omega) with rfl | rfl <;> exact h
theorem keep_ex {r : PRec} {l : List (Int × Int)} {B : Nat} (f' : Nat) (h3 : f' < 3) (hf : f' ≠ 1) (w : World) (v : Value) (h : RecF w B f' r v) : RecF w B f' { r with ex := l } v := by
  rcases (show f' = 0 ∨ f' = 2 by omega) with rfl | rfl <;> exact h
theorem keep_hi {r : PRec} {l : List (Int × Int)} {B : Nat} (f' : Nat) (h3 : f' < 3) (hf : f' ≠ 2) (w : World) (v : Value) (h : RecF w B f' r v) : RecF w B f' { r with hi := l } v := by
  rcases (show f' = 0 ∨ f' = 1 by omega) with rfl | rfl <;> exact h
end Go.Proofs.YtainelkenkgppaaDoor
