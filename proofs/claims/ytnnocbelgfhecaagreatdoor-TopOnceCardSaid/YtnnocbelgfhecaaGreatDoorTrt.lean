/- The writer of records. -/
import Derived.Test.YtnnocbelgfhecaaGreatDoorTrs
import Derived.Laws.IdiomStrings
set_option linter.unusedSimpArgs false
namespace Go.Proofs.YtnnocbelgfhecaaGreatDoor
open Go.ChangeShapes Go.WideShapes Go.ChangeAt Go.RowKit Go.Lott
/-- A writer at block wb that has written the bytes l; its memory lies from block B on. -/
def Wr (w : World) (B wb : Nat) (l : List Int) : Prop := B ≤ wb ∧ ∃ v, Cel w wb #[v] 202 ∧ w.ownsRow B 5 1 v l.length (l.map (Value.int .u8)) ∧ v.ownBlock ≠ some wb
theorem owns_below {w w1 : World} {base : Nat} {e : TypeId} {size n : Nat} {v : Value} {xs : List Value} (h : w.ownsRow base e size v n xs) (hb : Below w.heap.size w w1) : w1.ownsRow base e size v n xs :=
  h.kept (row := none) ⟨hb.os, hb.tape, hb.output, hb.size, fun k hk _ => hb.block k hk⟩ (by
    cases hc : v.ownBlock with
    | none => exact .inl rfl
    | some g => exact .inr (fun e => by cases e))
theorem Wr.below {w w1 : World} {B wb : Nat} {l : List Int} (h : Wr w B wb l) (hb : Below w.heap.size w w1) : Wr w1 B wb l := by
  obtain ⟨h0, v, h1, h2, h3⟩ := h
  exact ⟨h0, v, h1.below hb h1.lt, owns_below h2 hb, h3⟩
theorem infoB : (Tryz.prog.info? 5).map (fun i => (i.zero, i.size, i.bytes)) = some (some (.int .u8 0), 1, 1) := by kernel_rfl
set_option maxHeartbeats 1000000 in
set_option maxRecDepth 100000 in
theorem put_any (B wb : Nat) (l news : List Int) (ad : Addr) (c : Nat) (w : World) (h : Wr w B wb l) (hm : 0 < news.length) (hn : ∀ (j : Nat) x, news[j]? = some x → w.cell? (ad.add j) = some (.int .u8 x)) (hsz : l.length + news.length ≤ 1000000) :
    Calls Tryz.prog 142 #[.pointer (some ⟨wb, 0, none⟩), .slice (some ad) news.length c] w fun e w' => e = .returned (.tuple #[]) ∧ Wr w' B wb (l ++ news) ∧ Below B w w' := by
  obtain ⟨hB, v, hc, ho, hv⟩ := h
  obtain ⟨e0, he0, hz0, hz1, hz2⟩ := info_parts infoB
  have c0 := hc.cell 0
  have f0 := hc.free 0
  have cl := hc.lt
  simp at c0
  have HC := Lib.hid hc
  have HO := Lib.hid ho
  have HV := Lib.hid hv
  have HN := Lib.hid hn
  clear hc ho hv hn
  go_enter Tryz.func142, Tryz.ntmps142
  go_wp2_with
   (at_builtin
    refine wpList_append_lies _ rfl _ _ 75 rfl B 5 e0 (.int .u8 0) 1 1 Tryz.underlying75 he0 hz0 hz1 hz2 rfl (by decide) v l.length (l.map (Value.int .u8)) (by rfl) HO.out ad news.length c (news.map (Value.int .u8)) (by rfl) (by simp) (fun j u hj => by
      rw [List.getElem?_map] at hj
      cases hx : news[j]? with
      | none => rw [hx] at hj; cases hj
      | some x => rw [hx] at hj; cases hj; exact HN.out j x hx) (fun u hu => by obtain ⟨x, _, rfl⟩ := List.mem_map.1 hu; rfl) hm (by unfold maxLen; omega) (by omega) (by omega) w.heap.size rfl ?_
    intro g8 c8 w4 own8 gr8 at8 lt8
    have hne : g8 ≠ wb := by
      rcases at8 with hc | hc
      · intro e; subst e; exact HV.out hc
      · omega
    have HC4 := Lib.hid (show Cel w4 wb #[v] 202 from (gr8.block wb cl (fun e => HV.out e.symm)).trans HC.out)
    have HO4 := Lib.hid own8
    have HX := Lib.hid (show Below B w w4 from (Below.refl B w).grown gr8 (by omega) (fun k hk => own_ge HO.out k hk))
    have HNE := Lib.hid hne
    clear c0 f0 own8 gr8 at8 hne
    have c0 := HC4.out.cell 0
    have f0 := HC4.out.free 0
    have cl4 := HC4.out.lt
    simp at c0)
  refine bodyPost_end (v := .tuple #[]) (by simp [results, Tryz.results142, go_sem]) rfl ⟨rfl, ⟨hB, .slice (some ⟨g8, 0, none⟩) (l.length + news.length) c8, ?_, ?_, ?_⟩, ?_⟩
  · have := HC4.out.set 0 (.slice (some ⟨g8, 0, none⟩) (l.length + news.length) c8)
    simpa using this
  · have h2 := HO4.out.kept (gb_set (gb_refl w4 wb) 0 (.slice (some ⟨g8, 0, none⟩) (l.length + news.length) c8)) (.inr (fun e => HNE.out (by cases e; rfl)))
    rw [List.map_append, List.length_append]
    exact h2
  · intro e; cases e; exact HNE.out rfl
  · exact HX.out.setCell hB _
/-- The bytes of an unsigned number. -/
def ub (n : Nat) : List Int := if n < 128 then [(n : Int)] else bits BinOp.or IntKind.u8 ((n : Int) % 256) 128 :: ub (n / 128)
termination_by n
decreasing_by omega
theorem ub_len (n : Nat) : (ub n).length ≤ n + 1 := by
  induction n using Nat.strongRecOn with
  | _ n ih =>
    rw [ub]
    split
    · simp
    · have := ih (n / 128) (by omega)
      simp only [List.length_cons]
      omega
theorem ub_pos (n : Nat) : 0 < (ub n).length := by rw [ub]; split <;> simp
theorem one_cell {w : World} {x : Int} : ∀ (j : Nat) z, [x][j]? = some z → (w.alloc (.cells #[.int .u8 x] 5)).cell? ((⟨w.heap.size, 0, none⟩ : Addr).add j) = some (.int .u8 z) := fun j z hz => by
  rcases j with _ | j
  · simp at hz; subst hz
    exact (Cel.new w #[.int .u8 x] 5).cell 0
  · simp at hz
set_option maxHeartbeats 1000000 in
set_option maxRecDepth 100000 in
theorem uint_any (B wb : Nat) (l : List Int) (n : Nat) (w : World) (h : Wr w B wb l) (hn : n ≤ 400000) (hsz : l.length ≤ 1000) (hw : B ≤ w.heap.size) :
    Calls Tryz.prog 141 #[.pointer (some ⟨wb, 0, none⟩), .int .u64 n] w fun e w' => e = .returned (.tuple #[]) ∧ Wr w' B wb (l ++ ub n) ∧ Below B w w' := by
  have HW := Lib.hid h
  clear h
  go_enter Tryz.func141, Tryz.ntmps141
  go_wp2
  go_loopw [1] (fun i wr => ∃ (m : Nat) (pre : List Int), i = .int .u64 m ∧ m ≤ n ∧ pre ++ ub m = ub n ∧ Wr wr B wb (l ++ pre) ∧ Below B w wr) (fun i _ => (intOf i).toNat)
  case atStart => exact ⟨n, [], rfl, Nat.le_refl _, rfl, by simpa using HW.out, Below.refl _ _⟩
  case round =>
    obtain ⟨m, pre, rfl, hm, hpre, hw1, hb⟩ := hrel
    have hpl : pre.length ≤ 400001 := by have := congrArg List.length hpre; have := ub_len n; simp at *; omega
    have HW1 := Lib.hid hw1
    have HB := Lib.hid hb
    have HPRE := Lib.hid hpre
    clear hw1 hb hpre
    by_cases hlt : 128 ≤ m
    · go_wp2_with fail
      have HW2 := Lib.hid (HW1.out.below ((Below.refl wr.heap.size wr).alloc (Nat.le_refl _) (.cells #[.int .u8 (bits BinOp.or IntKind.u8 ((m : Int) % 256) 128)] 5)))
      refine (put_any B wb (l ++ pre) [bits BinOp.or IntKind.u8 ((m : Int) % 256) 128] ⟨wr.heap.size, 0, none⟩ 1 _ HW2.out (by simp) one_cell (by simp; omega)).mono ?_
      rintro e w3 ⟨rfl, hw3, hb3⟩
      have HW3 := Lib.hid hw3
      have HB3 := Lib.hid ((HB.out.alloc (Nat.le_trans hw HB.out.size) _).trans hb3)
      clear hw3 hb3
      go_wp2
      go_roundw
      case rel =>
        refine ⟨m / 128, pre ++ [bits BinOp.or IntKind.u8 ((m : Int) % 256) 128], by go_num, by omega, ?_, ?_, HB3.out⟩
        · rw [← HPRE.out]
          conv => rhs; rw [ub]
          rw [if_neg (by omega)]
          simp
        · have := HW3.out
          rwa [List.append_assoc] at this
      case measure => simp [intOf]; omega
    · have e1 : ub m = [(m : Int)] := by rw [ub, if_pos (by omega)]
      have E1 := Lib.hid e1
      clear e1
      go_wp2_with fail
      have HW2 := Lib.hid (HW1.out.below ((Below.refl wr.heap.size wr).alloc (Nat.le_refl _) (.cells #[.int .u8 (m : Int)] 5)))
      refine (put_any B wb (l ++ pre) [(m : Int)] ⟨wr.heap.size, 0, none⟩ 1 _ HW2.out (by simp) one_cell (by simp; omega)).mono ?_
      rintro e w3 ⟨rfl, hw3, hb3⟩
      have HW3 := Lib.hid hw3
      have HB3 := Lib.hid ((HB.out.alloc (Nat.le_trans hw HB.out.size) _).trans hb3)
      clear hw3 hb3
      go_wp2
      refine bodyPost_end (v := .tuple #[]) (by simp [results, Tryz.results141, go_sem]) rfl ⟨rfl, ?_, HB3.out⟩
      have := HW3.out
      rw [List.append_assoc, ← E1.out, HPRE.out] at this
      exact this
theorem zig_any (n : Nat) (w : World) (hn : n ≤ 200000) : Calls Tryz.prog 143 #[.int .i64 n] w (RetS (.int .u64 (2 * n : Nat)) w) := by
  go_enter Tryz.func143, Tryz.ntmps143
  go_wp2
  go_ret
  exact ⟨ret_int (by omega), rfl⟩
theorem int_any (B wb : Nat) (l : List Int) (n : Nat) (w : World) (h : Wr w B wb l) (hn : n ≤ 200000) (hsz : l.length ≤ 1000) (hw : B ≤ w.heap.size) :
    Calls Tryz.prog 122 #[.pointer (some ⟨wb, 0, none⟩), .int .i64 n] w fun e w' => e = .returned (.tuple #[]) ∧ Wr w' B wb (l ++ ub (2 * n)) ∧ Below B w w' := by
  have HW := Lib.hid h
  clear h
  go_enter Tryz.func122, Tryz.ntmps122
  go_wp2_with (first
    | (go_at_call 143; (with_reducible refine (zig_any n _ hn).mono ?_); rintro e w' ⟨rfl, rfl⟩)
    | (go_at_call 141; refine (uint_any B wb l (2 * n) _ HW.out (by omega) hsz hw).mono ?_; rintro e w2 ⟨rfl, h2, h3⟩; have H2 := Lib.hid h2; have H3 := Lib.hid h3; clear h2 h3))
  refine bodyPost_end (v := .tuple #[]) (by simp [results, Tryz.results122, go_sem]) rfl ⟨rfl, H2.out, H3.out⟩
/-- The bytes of a string as numbers. -/
def bts (s : ByteArray) : List Int := s.data.toList.map fun c => (c.toNat : Int)
theorem bts_len (s : ByteArray) : (bts s).length = s.size := by unfold bts; simp
theorem bytes_cell {w : World} {s : ByteArray} {cap : Nat} {fr : Nat × Nat} : ∀ (j : Nat) z, (bts s)[j]? = some z → (w.drew.alloc (.cells (bytesRow s cap) 5 fr)).cell? ((⟨w.heap.size, 0, none⟩ : Addr).add j) = some (.int .u8 z) := fun j z hz => by
  have h : (w.drew.alloc (.cells (bytesRow s cap) 5 fr)).cell? ((⟨w.heap.size, 0, none⟩ : Addr).add j) = (bytesRow s cap)[j]? := by
    have h2 := heap_alloc_new w.drew (.cells (bytesRow s cap) 5 fr)
    have h3 : (w.drew.alloc (.cells (bytesRow s cap) 5 fr)).heap[w.heap.size]? = some (.cells (bytesRow s cap) 5 fr) := h2
    have e : (⟨w.heap.size, 0, none⟩ : Addr).add j = ⟨w.heap.size, j, none⟩ := by
      unfold Addr.add
      split
      · subst_vars; rfl
      · simp
    rw [e]
    simp only [World.cell?]
    rw [h3]
    rfl
  rw [h]
  unfold bts at hz
  rw [List.getElem?_map] at hz
  have hlt : j < s.data.size := by
    rcases Nat.lt_or_ge j s.data.size with c | c
    · exact c
    · rw [List.getElem?_eq_none (by simpa using c)] at hz; cases hz
  unfold bytesRow
  rw [Array.getElem?_append_left (by simpa using hlt), Array.getElem?_map]
  rw [Array.getElem?_toList] at hz
  rw [Array.getElem?_eq_getElem hlt] at hz ⊢
  simp at hz ⊢
  exact hz
set_option maxHeartbeats 1000000 in
set_option maxRecDepth 100000 in
theorem text_any (B wb : Nat) (l : List Int) (s : ByteArray) (w : World) (h : Wr w B wb l) (hz : 0 < s.size) (hs : s.size ≤ 100) (hsz : l.length ≤ 1000) (hw : B ≤ w.heap.size) :
    Calls Tryz.prog 121 #[.pointer (some ⟨wb, 0, none⟩), .string s] w fun e w' => e = .returned (.tuple #[]) ∧ Wr w' B wb (l ++ (ub s.size ++ bts s)) ∧ Below B w w' := by
  have HW := Lib.hid h
  have HS := Lib.hid hs
  have hcv := fun W => run_bytes_of_string (P := Tryz.prog) W 9 75 5 s Tryz.underlying9 Tryz.underlying75 Tryz.underlying5
  clear h
  go_enter Tryz.func121, Tryz.ntmps121
  go_wp2_with (first
    | (go_at_call 141; refine (uint_any B wb l s.size _ HW.out (by omega) hsz hw).mono ?_; rintro e w2 ⟨rfl, h2, h3⟩; have H2 := Lib.hid h2; have H3 := Lib.hid h3; clear h2 h3)
    | fail)
  have hul := ub_len s.size
  have HP := put_any B wb (l ++ ub s.size) (bts s) ⟨w2.heap.size, 0, none⟩ (grownCap w2 s.size 0 5) _ (H2.out.below (((Below.refl w2.heap.size w2).drew).alloc (by simp) (.cells (bytesRow s (grownCap w2 s.size 0 5)) 5 ((bytesRow s (grownCap w2 s.size 0 5)).size, (bytesRow s (grownCap w2 s.size 0 5)).size + 1)))) (by rw [bts_len]; exact hz) bytes_cell (by rw [bts_len]; simp; omega)
  rw [bts_len] at HP
  refine HP.mono ?_
  rintro e w3 ⟨rfl, hw3, hb3⟩
  have HW3 := Lib.hid hw3
  have HB3 := Lib.hid ((H3.out.drew.alloc (Nat.le_trans hw H3.out.size) _).trans hb3)
  clear hw3 hb3 HP
  go_wp2
  refine bodyPost_end (v := .tuple #[]) (by simp [results, Tryz.results121, go_sem]) rfl ⟨rfl, ?_, HB3.out⟩
  have := HW3.out
  rw [List.append_assoc] at this
  exact this
end Go.Proofs.YtnnocbelgfhecaaGreatDoor
