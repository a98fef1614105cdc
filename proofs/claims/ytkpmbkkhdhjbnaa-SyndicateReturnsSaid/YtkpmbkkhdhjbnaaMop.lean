/- The reference's split. -/
import Derived.Test.YtkpmbkkhdhjbnaaMoo
import Derived.Deep.AppendLies
namespace Go.Lott
open Go.RowKit
/-- A block whose first n cells are known. -/
def Rw (w : World) (b n : Nat) (f : Nat → Int) (t : TypeId) : Prop := ∃ cur, Cel w b cur t ∧ ∀ i, i < n → cur[i]? = some (.int .i64 (f i))
section
variable {w w1 : World} {b n : Nat} {f : Nat → Int} {t : TypeId}
theorem Rw.at (h : Rw w b n f t) {i : Nat} (hi : i < n) : w.cell? ⟨b, i, none⟩ = some (.int .i64 (f i)) := by obtain ⟨cur, hc, hf⟩ := h; rw [hc.cell, hf i hi]
theorem Rw.free (h : Rw w b n f t) (i : Nat) : w.frozen? ⟨b, i, none⟩ = false := by obtain ⟨cur, hc, hf⟩ := h; exact hc.free i
theorem Rw.lt (h : Rw w b n f t) : b < w.heap.size := by obtain ⟨cur, hc, hf⟩ := h; exact hc.lt
theorem Rw.below {B : Nat} (h : Rw w b n f t) (hb : Below B w w1) (hB : b < B) : Rw w1 b n f t := by obtain ⟨cur, hc, hf⟩ := h; exact ⟨cur, hc.below hb hB, hf⟩
theorem Rw.drew (h : Rw w b n f t) : Rw w.drew b n f t := by obtain ⟨cur, hc, hf⟩ := h; exact ⟨cur, hc.drew, hf⟩
theorem Rw.other (h : Rw w b n f t) {a : Addr} (ha : b ≠ a.block) (u : Value) : Rw (w.setCell a u) b n f t := by obtain ⟨cur, hc, hf⟩ := h; exact ⟨cur, hc.other ha u, hf⟩
theorem Rw.put (h : Rw w b n f t) (i : Nat) (x : Int) : Rw (w.setCell ⟨b, i, none⟩ (.int .i64 x)) b n (fun k => if k = i then x else f k) t := by
  obtain ⟨cur, hc, hf⟩ := h
  refine ⟨_, hc.set i _, fun k hk => ?_⟩
  rw [Array.getElem?_setIfInBounds]
  by_cases c : i = k
  · subst c
    have := hf i hk
    have hs : i < cur.size := by
      rcases Nat.lt_or_ge i cur.size with c | c
      · exact c
      · rw [Array.getElem?_eq_none c] at this; cases this
    rw [if_pos rfl, if_pos hs]; simp
  · rw [if_neg c, hf k hk]
    show _ = some (Value.int .i64 (if k = i then x else f k))
    rw [if_neg (fun e => c (Eq.symm e))]
theorem Rw.congr (h : Rw w b n f t) {g : Nat → Int} (hg : ∀ k, k < n → f k = g k) : Rw w b n g t := by obtain ⟨cur, hc, hf⟩ := h; exact ⟨cur, hc, fun i hi => by rw [hf i hi, hg i hi]⟩
theorem IsRow.of_rw (h : Rw w b n f t) (hn : n ≤ maxLen) : IsRow w (some ⟨b, 0, none⟩) n f := .inr ⟨b, 0, rfl, h.lt, hn, fun i hi => by rw [Nat.zero_add]; exact h.at hi⟩
end
/-- The numbers of a list, as values. -/
def fl (n : Nat) (f : Nat → Int) : List Value := (List.range n).map fun k => .int .i64 (f k)
theorem fl_succ (n : Nat) (f : Nat → Int) : fl (n + 1) f = fl n f ++ [.int .i64 (f n)] := by unfold fl; rw [List.range_succ, List.map_append]; rfl
theorem rw_of_owns {w : World} {base : Nat} {e : TypeId} {g n cap : Nat} {f : Nat → Int} (h : w.ownsRow base e 1 (.slice (some ⟨g, 0, none⟩) n cap) n (fl n f)) : Rw w g n f e := by
  rcases h.2 with ⟨hc, _⟩ | ⟨g', cap', cur, hv, _, hh, _, _, _, hl⟩
  · cases hc
  · injection hv with h1 h2 h3
    injection h1 with h1
    injection h1 with h1
    subst h1
    refine ⟨cur, hh, fun i hi => ?_⟩
    have := congrArg (fun l => l[i]?) hl
    simp only [List.getElem?_take, Nat.mul_one, if_pos hi, Array.getElem?_toList] at this
    rw [this]; simp [fl, hi]
end Go.Lott
namespace Go.Lott.Spl
/-- The first greatest of the first k. -/
def gr (z : Nat → Int) : Nat → Nat
  | 0 => 0
  | k + 1 => if z (gr z k) < z k then k else gr z k
theorem gr_one (z : Nat → Int) : gr z 1 = 0 := by unfold gr; split <;> rfl
theorem gr_spec (z : Nat → Int) : ∀ k, 1 ≤ k → gr z k < k ∧ (∀ j, j < k → z j ≤ z (gr z k)) ∧ ∀ j, j < gr z k → z j < z (gr z k)
  | 0, h => by omega
  | 1, _ => by
    have e : gr z 1 = 0 := by unfold gr; split <;> rfl
    rw [e]
    exact ⟨by omega, fun j hj => by obtain rfl : j = 0 := by omega
                                    exact Int.le_refl _, fun j hj => by omega⟩
  | k + 2, _ => by
    obtain ⟨h1, h2, h3⟩ := gr_spec z (k + 1) (by omega)
    have e : gr z (k + 2) = if z (gr z (k + 1)) < z (k + 1) then k + 1 else gr z (k + 1) := rfl
    by_cases c : z (gr z (k + 1)) < z (k + 1)
    · rw [e, if_pos c]
      refine ⟨by omega, fun j hj => ?_, fun j hj => by have := h2 j hj; omega⟩
      rcases Nat.lt_or_ge j (k + 1) with d | d
      · have := h2 j d; omega
      · obtain rfl : j = k + 1 := by omega
        exact Int.le_refl _
    · rw [e, if_neg c]
      refine ⟨by omega, fun j hj => ?_, h3⟩
      rcases Nat.lt_or_ge j (k + 1) with d | d
      · exact h2 j d
      · obtain rfl : j = k + 1 := by omega
        omega
/-- What is left of the remainders. -/
def rst (R : Nat → Int) (o : List Nat) (x i : Nat) : Int := if i ∈ o.take x then -1 else R i
theorem rst_bd {R : Nat → Int} {o : List Nat} {x i : Nat} {M : Int} (h : 0 ≤ R i ∧ R i ≤ M) : -1 ≤ rst R o x i ∧ rst R o x i ≤ M := by unfold rst; split <;> omega
theorem rst_in {R : Nat → Int} {o : List Nat} {x i : Nat} (h : i ∈ o.take x) : rst R o x i = -1 := by unfold rst; rw [if_pos h]
theorem rst_out {R : Nat → Int} {o : List Nat} {x i : Nat} (h : i ∉ o.take x) : rst R o x i = R i := by unfold rst; rw [if_neg h]
theorem rst_next {R : Nat → Int} {o : List Nat} {x : Nat} (hx : x < o.length) (i : Nat) : (if i = o[x] then -1 else rst R o x i) = rst R o (x + 1) i := by
  unfold rst
  by_cases c : i = o[x]
  · rw [if_pos c, if_pos ((mem_take_succ hx).2 (Or.inr c))]
  · rw [if_neg c]
    by_cases d : i ∈ o.take x
    · rw [if_pos d, if_pos ((mem_take_succ hx).2 (Or.inl d))]
    · rw [if_neg d, if_neg (fun e => by rcases (mem_take_succ hx).1 e with h | h <;> contradiction)]
/-- The first greatest of what is left is the next one in the order. -/
theorem gr_next {R : Nat → Int} {n : Nat} {o : List Nat} (h : Ord R n o) (h0 : ∀ k, k < n → 0 ≤ R k) {x : Nat} (hx : x < o.length) : gr (rst R o x) n = o[x] := by
  have hl := h.length
  obtain ⟨g1, g2, g3⟩ := gr_spec (rst R o x) n (by omega)
  have hox := h.get hx
  have e1 : rst R o x o[x] = R o[x] := rst_out (nodup_take h.nodup hx)
  have hn : gr (rst R o x) n ∉ o.take x := fun hc => by
    have := g2 _ hox
    rw [e1] at this
    rw [rst_in hc] at this
    have := h0 _ hox; omega
  obtain ⟨j, hj, hxj, e⟩ := h.not_mem g1 hn
  rcases Nat.eq_or_lt_of_le hxj with rfl | hlt
  · exact e.symm
  · exfalso
    have hb := h.after hlt hj
    rw [e] at hb
    have e2 := rst_out (R := R) hn
    have h5 := g2 _ hox
    rw [e1, e2] at h5
    unfold bef at hb
    rcases hb with hb | ⟨hb, hc⟩
    · omega
    · have := g3 _ hc
      rw [e1, e2] at this; omega
/-- There is such an order. -/
theorem ord_exists (R : Nat → Int) (n : Nat) (hn : 1 ≤ n) : ∃ o, Ord R n o := by
  obtain ⟨m, rfl⟩ : ∃ m, n = m + 1 := ⟨n - 1, by omega⟩
  have hS : Go.Sort.SWO (fun (x y : Fin (m + 1)) => decide (R y.val < R x.val)) := ⟨fun x => by simp, fun x y z h1 h2 => by simp only [decide_eq_true_eq] at *; omega, fun x y z h1 h2 => by simp only [decide_eq_false_iff_not] at *; omega⟩
  have hs : (Array.ofFn fun (x : Fin (m + 1)) => x).size = m + 1 := by simp
  exact ⟨_, ord_of_merged (fun k hk => by simp [hk]) (Stb.ins_merged hS (Array.ofFn fun (x : Fin (m + 1)) => x) (Nat.zero_le _) (by rw [hs]; exact Nat.le_refl _))⟩
end Go.Lott.Spl
namespace Go.Proofs.Ytkpmbkkhdhjbnaa
open Go.ChangeShapes Go.WideShapes Go.ChangeAt Go.RowKit Go.Lott
open Go.Lott.Spl

set_option maxHeartbeats 2000000 in
theorem greatest_any (b n cap : Nat) (z : Nat → Int) (t : TypeId) (w : World) (hr : Rw w b n z t) (h1 : 1 ≤ n) (hn : n ≤ 1000000000) : Calls Try.prog 57 #[.slice (some ⟨b, 0, none⟩) n cap] w (RetB (.int .i64 (gr z n : Int)) w) := by
  have HR := Lib.hid hr
  have hlt := hr.lt
  clear hr
  go_enter Try.func57, Try.ntmps57
  go_wp2
  go_loopw [3, 4] (fun v i wr => ∃ k : Nat, 1 ≤ k ∧ k ≤ n ∧ i = .int .i64 k ∧ v = .int .i64 (gr z k : Int) ∧ Below w.heap.size w wr) (fun _ i _ => n - (intOf i).toNat)
  case atStart => exact ⟨1, by omega, by omega, rfl, by show Value.int .i64 0 = .int .i64 ((gr z 1 : Nat) : Int); rw [gr_one]; rfl, Below.refl _ _⟩
  case round =>
    obtain ⟨k, k1, k2, rfl, rfl, hbel⟩ := hrel
    by_cases hlt2 : k < n
    · obtain ⟨g1, _, _⟩ := gr_spec z k k1
      have hR := HR.out.below hbel hlt
      have c1 := hR.at hlt2
      have c2 := hR.at (show gr z k < n by omega)
      have s1 : ∀ x : Sub wr.heap.size wr, x.w.cell? ⟨b, k, none⟩ = some (.int .i64 (z k)) := Sub.cell c1 hR.lt
      have s2 : ∀ x : Sub wr.heap.size wr, x.w.cell? ⟨b, gr z k, none⟩ = some (.int .i64 (z (gr z k))) := Sub.cell c2 hR.lt
      have i1 : (0 : Int) ≤ (k : Int) := by omega
      have i2 : (k : Int) < (n : Int) := by omega
      have i3 : (0 : Int) ≤ (gr z k : Int) := by omega
      have i4 : (gr z k : Int) < (n : Int) := by omega
      clear hR
      by_cases hg : z (gr z k) < z k
      · have HG := Lib.hid (show gr z (k + 1) = k by show (if _ then _ else _) = _; rw [if_pos hg])
        have d1 : decide (z (gr z k) < z k) = true := decide_eq_true hg
        go_wp2
        refine wp_region_below (by kernel_rfl) (by kernel_rfl) ?_
        repeat (go_big_quiet_step (fail))
        refine wpQuiet_nil ?_
        rintro w2 ⟨⟨_, hb2⟩, rfl⟩
        go_wp2
        go_roundw
        case rel => exact ⟨k + 1, by omega, by omega, by go_num, by rw [HG.out], hbel.trans (hb2.mono hbel.size)⟩
        case measure => simp [intOf]; omega
      · have HG := Lib.hid (show gr z (k + 1) = gr z k by show (if _ then _ else _) = _; rw [if_neg hg])
        have d1 : decide (z (gr z k) < z k) = false := decide_eq_false hg
        go_wp2
        refine wp_region_below (by kernel_rfl) (by kernel_rfl) ?_
        repeat (go_big_quiet_step (fail))
        refine wpQuiet_nil ?_
        rintro w2 ⟨⟨_, hb2⟩, rfl⟩
        go_wp2
        go_roundw
        case rel => exact ⟨k + 1, by omega, by omega, by go_num, by rw [HG.out], hbel.trans (hb2.mono hbel.size)⟩
        case measure => simp [intOf]; omega
    · obtain rfl : k = n := by omega
      go_wp2
      go_ret
      exact ⟨rfl, hbel⟩
/-- The error of the reference's check, and the sum of the weights. -/
def chkV (m : Int) (n : Nat) (ws : Nat → Int) : Int := if splE m n ws = 0 then Spl.sm ws n else 0
theorem chk_err {m : Int} {n : Nat} {ws : Nat → Int} {E : Int} (h : splE m n ws = E) (h0 : E ≠ 0) : chkV m n ws = 0 ∧ splE m n ws = E := ⟨by unfold chkV; rw [h, if_neg h0], h⟩
set_option maxHeartbeats 4000000 in
theorem rChk_any (m : Int) (a : Option Addr) (n cap : Nat) (ws : Nat → Int) (w : World) (hr : IsRow w a n ws) (hn : n ≤ maxLen) :
    Calls Try.prog 56 #[.int .i64 m, .slice a n cap] w (RetS (.tuple #[.int .i64 (chkV m n ws), .int .i64 (splE m n ws)]) w) := by
  unfold maxLen at hn
  have HR := Lib.hid hr
  clear hr
  by_cases hm : 0 ≤ m ∧ m ≤ 1000000000000
  · have hv := fun w => rValid_any m w
    rw [(amB_iff m).2 hm] at hv
    have HM := Lib.hid hv
    have HAM := Lib.hid hm
    obtain ⟨m0, m1⟩ := hm
    clear hv
    by_cases hl : n = 0 ∨ 64 < n
    · have HV := Lib.hid (chk_err (splE_len (ws := ws) HAM.out hl) (by decide))
      by_cases h0 : n = 0
      · subst h0
        clear hl
        go_enter Try.func56, Try.ntmps56
        go_wp2_with (go_at_call 37; refine (HM.out _).mono ?_; rintro e w' ⟨rfl, rfl⟩)
        go_ret2
        exact ⟨ret_two HV.out.1.symm HV.out.2.symm, rfl⟩
      · have h1 : (1 : Int) ≤ (n : Int) := by omega
        have h2 : (64 : Int) < (n : Int) := by omega
        clear hl h0
        go_enter Try.func56, Try.ntmps56
        go_wp2_with (go_at_call 37; refine (HM.out _).mono ?_; rintro e w' ⟨rfl, rfl⟩)
        go_ret2
        exact ⟨ret_two HV.out.1.symm HV.out.2.symm, rfl⟩
    · have h1 : (1 : Int) ≤ (n : Int) := by omega
      have h2 : (n : Int) ≤ 64 := by omega
      have h3 : 1 ≤ n := by omega
      have HNL := Lib.hid hl
      clear hl
      obtain ⟨b, o, rfl, hb, _, hc⟩ : ∃ b o, a = some ⟨b, o, none⟩ ∧ b < w.heap.size ∧ n ≤ maxLen ∧ ∀ i, i < n → w.cell? ⟨b, o + i, none⟩ = some (.int .i64 (ws i)) := by
        rcases HR.out with h | h
        · omega
        · exact h
      have HC := Lib.hid hc
      clear hc
      go_enter Try.func56, Try.ntmps56
      go_wp2_with (go_at_call 37; refine (HM.out _).mono ?_; rintro e w' ⟨rfl, rfl⟩)
      go_loop [6, 7] (fun v i => ∃ k : Nat, k ≤ n ∧ i = .int .i64 k ∧ v = .int .i64 (Spl.sm ws k) ∧ (∀ j, j < k → 0 ≤ ws j ∧ ws j ≤ 1000000000000) ∧ 0 ≤ Spl.sm ws k ∧ Spl.sm ws k ≤ 1000000000000 * (k : Int)) (fun _ i => n - (intOf i).toNat)
      case atStart => exact ⟨0, by omega, rfl, rfl, fun j hj => by omega, by simp [Spl.sm], by simp [Spl.sm]⟩
      case round =>
        obtain ⟨k, hk, rfl, rfl, hall, s0, s1⟩ := hrel
        have HA := Lib.hid hall
        clear hall
        by_cases hlt : k < n
        · have ck := HC.out k hlt
          have hv := fun w => rValid_any (ws k) w
          by_cases hw : 0 ≤ ws k ∧ ws k ≤ 1000000000000
          · rw [(amB_iff _).2 hw] at hv
            have HW := Lib.hid hv
            have HB := Lib.hid hw
            obtain ⟨w0, w1⟩ := hw
            clear hv
            go_wp2_with (go_at_call 37; ((with_reducible refine (HW.out _).mono ?_); rintro e w' ⟨rfl, rfl⟩))
            go_round
            case rel => exact ⟨k + 1, hlt, by go_num, rfl, all_next HA.out HB.out, by show 0 ≤ Spl.sm ws k + ws k; omega, by show Spl.sm ws k + ws k ≤ _; omega⟩
            case measure => simp [intOf]; omega
          · have HV := Lib.hid (chk_err (splE_w HAM.out HNL.out hlt hw) (by decide))
            rw [show amB (ws k) = false from decide_eq_false hw] at hv
            have HW := Lib.hid hv
            clear hv hw
            go_wp2_with (go_at_call 37; ((with_reducible refine (HW.out _).mono ?_); rintro e w' ⟨rfl, rfl⟩))
            go_ret2
            exact ⟨ret_two HV.out.1.symm HV.out.2.symm, rfl⟩
        · obtain rfl : k = n := by omega
          by_cases ht : Spl.sm ws k = 0
          · have HV := Lib.hid (chk_err (splE_zero HAM.out HNL.out HA.out ht) (by decide))
            have ht2 : (Spl.sm ws k == 0) = true := by rw [beq_iff_eq]; exact ht
            clear ht
            go_wp2
            go_ret2
            exact ⟨ret_two HV.out.1.symm HV.out.2.symm, rfl⟩
          · have ht2 : (Spl.sm ws k == 0) = false := by rw [beq_eq_false_iff_ne]; exact ht
            have HV := Lib.hid (show Spl.sm ws k = chkV m k ws ∧ 0 = splE m k ws by
              have := splE_ok (show SOk m ws k from ⟨m0, m1, h3, by omega, HA.out, by omega⟩)
              exact ⟨by unfold chkV; rw [this, if_pos rfl], this.symm⟩)
            clear ht
            go_wp2
            go_ret2
            exact ⟨ret_two HV.out.1 HV.out.2, rfl⟩
  · have hv := fun w => rValid_any m w
    rw [show amB m = false from decide_eq_false hm] at hv
    have HM := Lib.hid hv
    have HV := Lib.hid (chk_err (splE_am (n := n) (ws := ws) hm) (by decide))
    clear hv hm
    go_enter Try.func56, Try.ntmps56
    go_wp2_with (go_at_call 37; refine (HM.out _).mono ?_; rintro e w' ⟨rfl, rfl⟩)
    go_ret2
    exact ⟨ret_two HV.out.1.symm HV.out.2.symm, rfl⟩
end Go.Proofs.Ytkpmbkkhdhjbnaa
