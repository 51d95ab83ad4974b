/-
  The statements of layer 24: speaks.
-/
import Derived.Test.YtkclgemkeifbaaaRepBoth
import Derived.Test.YtkclgemkeifbaaaRepLaw2
namespace Go.Proofs.Ytkclgemkeifbaaa
open Go.RowKit Go.Proofs

def spRec : RRec := ⟨1, 9, 10, 0, 0, 1, 0, 0, 0, []⟩
def spHd : Hd := { hdZero with id := 1 }
def spS : List UInt8 := [0, 1, 132, 0, 0, 1, 0, 1, 0, 0, 0, 0, 1, 97, 0, 0, 1, 0, 1, 192, 12, 0, 1, 0, 1, 0, 0, 0, 9, 0, 4, 10, 0, 0, 1]
theorem sp_out : bldOut spHd true [[97]] 1 1 0 [spRec] = (spS, 1, 0) := by decide +kernel
theorem spHd_fits : spHd.Fits := by constructor <;> decide
theorem spRec_fits : spRec.Fits := by constructor <;> decide
theorem sp_told : Told spHd true [[97]] 1 1 0 [spRec] 1 spS := by
  have h := told_build spHd spHd_fits true [[97]] 1 1 0 [spRec] (by decide) (by decide) (fun r hr => by rw [List.mem_singleton.1 hr]; exact spRec_fits) (by rw [sp_out])
  rw [sp_out] at h
  exact h

/-- what Parse answers to it -/
theorem sp_parse (w : World) : Calls Try.prog 41 #[.string ⟨#[0, 1, 132, 0, 0, 1, 0, 1, 0, 0, 0, 0, 1, 97, 0, 0, 1, 0, 1, 192, 12, 0, 1, 0, 1, 0, 0, 0, 9, 0, 4, 10, 0, 0, 1]⟩] w fun e w' => Gr w w' ∧ ∃ a cap av cv, (∃ b o, av = some ⟨b, o, none⟩ ∧ w'.cell? ⟨b, o + 1, none⟩ = some (.int .u32 9)) ∧ e = .returned (.tuple #[.agg #[.int .u16 1, .bool false, .int .u8 0, .bool false, .bool false, .bool false, .bool false, .int .u8 0, .int .u8 0, .int .u16 1, .int .u16 0, .int .u16 0, .int .u16 0, .bool true, .slice a 1 cap, .int .u16 1, .int .u16 1], .int .i64 0, .bool false, .slice av 1 cv, .int .i64 0]) := by
  have h := parse_any spS w (by decide)
  have T := sp_told
  refine h.mono ?_
  intro e w' hp
  unfold ParseEnd at hp
  rw [if_neg (by decide), if_neg (by rw [T.hd]; decide), if_pos T.ok] at hp
  unfold prsEnd prsE at hp
  rw [T.out, T.hd] at hp
  obtain ⟨f, a, cap, L, v, ow, hL, hown, rfl⟩ := hp
  obtain ⟨av, cv, rfl⟩ := hown.slice
  have hLl : L.length = 1 := by have := congrArg List.length hL; simpa using this
  match L, hLl with
  | [x], _ =>
    refine ⟨f, a, cap, av, cv, ?_, rfl⟩
    have hx : x.1 = spRec.plain := by simpa using hL
    obtain ⟨a', cap', e', hs, -⟩ := SlA.of_own hown.row
    cases e'
    obtain ⟨b, o, rfl, hc⟩ := hs.cell 1 (.int .u32 9) (by
      simp only [List.flatMap_cons, List.flatMap_nil, List.append_nil, RowR.cells]
      rw [hx]; rfl)
    exact ⟨b, o, rfl, hc⟩

set_option maxHeartbeats 8000000 in
set_option maxRecDepth 100000 in
theorem speaks24_any (W : World) : Calls Try.prog 37 #[] W fun e w' => e = .returned (.bool true) ∧ Gr W w' := by
  obtain ⟨iq, hq1, hq2, hq3⟩ := info_two Try.zeroQuery
  obtain ⟨w2, hw2⟩ : ∃ w2, w2 = ((W.alloc (.cells #[.string ⟨#[97]⟩] 9)).alloc (.cells #[.int .u16 1, .bool false, .int .u8 0, .bool false, .bool false, .bool false, .bool false, .int .u8 0, .int .u8 0, .int .u16 0, .int .u16 0, .int .u16 0, .int .u16 0, .bool true, .slice (some ⟨W.heap.size, 0, none⟩) 1 1, .int .u16 1, .int .u16 1] 67)) := ⟨_, rfl⟩
  have f2 : Gr W w2 := by rw [hw2]; exact ((Fr.refl _ _).alloc _).alloc _
  have Q2 := Lib.hid (show w2.heap[W.heap.size + 1]? = some (.cells #[.int .u16 1, .bool false, .int .u8 0, .bool false, .bool false, .bool false, .bool false, .int .u8 0, .int .u8 0, .int .u16 0, .int .u16 0, .int .u16 0, .int .u16 0, .bool true, .slice (some ⟨W.heap.size, 0, none⟩) 1 1, .int .u16 1, .int .u16 1] 67 (0, 0)) by rw [hw2, heap_alloc_if, if_pos (by simp)])
  have hn2 : SlA w2 (some ⟨W.heap.size, 0, none⟩) 1 1 (strVs [[97]]) := sla_one _ _ (by rw [World.cell?, hw2, heap_alloc_if, if_neg (by simp), heap_alloc_if, if_pos rfl]; rfl)
  obtain ⟨w3, hw3⟩ : ∃ w3, w3 = w2.alloc (.cells #[.int .u16 1, .int .u32 9, .int .u8 10, .int .u8 0, .int .u8 0, .int .u8 1, .int .u16 0, .int .u16 0, .int .u16 0, .slice none 0 0] 110) := ⟨_, rfl⟩
  have f3 : Gr w2 w3 := by rw [hw3]; exact (Fr.refl _ _).alloc _
  have hr3 : RowsAt w3 (some ⟨w2.heap.size, 0, none⟩) 1 [(spRec, none, 0)] := by
    refine ⟨⟨Nat.le_refl _, by decide, fun j u hj => ⟨w2.heap.size, 0, rfl, ?_⟩⟩, fun x hx => ?_, fun x hx => ?_⟩
    · rw [hw3, World.cell?_alloc_at _ _ _ _ (by rfl)]
      simpa [RowR.cells, RRec.cells, spRec] using hj
    · rw [List.mem_singleton.1 hx]
      exact ⟨Nat.le_refl _, by decide, fun j u hj => by simp [spRec] at hj⟩
    · rw [List.mem_singleton.1 hx]; exact spRec_fits
  have CB : Hid (Calls Try.prog 39 #[.agg #[.int .u16 1, .bool false, .int .u8 0, .bool false, .bool false, .bool false, .bool false, .int .u8 0, .int .u8 0, .int .u16 0, .int .u16 0, .int .u16 0, .int .u16 0, .bool true, .slice (some ⟨W.heap.size, 0, none⟩) 1 1, .int .u16 1, .int .u16 1], .int .i64 0, .slice (some ⟨w2.heap.size, 0, none⟩) 1 1] w3 fun e w' => e = .returned (.tuple #[.string ⟨#[0, 1, 132, 0, 0, 1, 0, 1, 0, 0, 0, 0, 1, 97, 0, 0, 1, 0, 1, 192, 12, 0, 1, 0, 1, 0, 0, 0, 9, 0, 4, 10, 0, 0, 1]⟩, .int .i64 0]) ∧ Gr w3 w') := Lib.hid (by
    have h := build_any spHd spHd_fits true (some ⟨W.heap.size, 0, none⟩) 1 [[97]] 1 1 0 (some ⟨w2.heap.size, 0, none⟩) 1 [(spRec, none, 0)] w3 (hn2.keep f3 (fun _ _ h => h)) (by decide) (by decide) (by decide) hr3
    unfold BuildEnd at h
    rw [show ([(spRec, (none : Option Addr), 0)] : List RowR).map (·.1) = [spRec] from rfl, sp_out] at h
    exact h)
  have F3 := Lib.hid (Gr.trans f2 f3)
  have HW2 := Lib.hid hw2
  have HW3 := Lib.hid hw3
  clear hw2 hw3 f2 f3 hn2 hr3
  go_enter Try.func37, Try.ntmps37
  go_upto_region 2 with fail
  rw [← HW2.out]
  clear HW2
  refine wp_region_lit ?_
  refine wpList_load_mid (by rfl) 67 _ (by rfl) (W.heap.size + 1) 0 (by rfl) (Array.toList #[.int .u16 1, .bool false, .int .u8 0, .bool false, .bool false, .bool false, .bool false, .int .u8 0, .int .u8 0, .int .u16 0, .int .u16 0, .int .u16 0, .int .u16 0, .bool true, .slice (some ⟨W.heap.size, 0, none⟩) 1 1, .int .u16 1, .int .u16 1]) _ (blk_range Q2.out) Try.underlying67 rfl Try.infoQuery17 ?_
  go_wp2_with fail
  rw [← HW3.out]
  clear HW3 Q2
  refine CB.out.mono ?_
  rintro e w4 ⟨rfl, f4⟩
  have F4 := Lib.hid (Gr.trans F3.out f4)
  clear f4 F3 CB
  go_wp2_with fail
  refine (sp_parse _).mono ?_
  rintro e w5 ⟨f5, a, cap, av, cv, hr, rfl⟩
  obtain ⟨b, o, rfl, hc⟩ := hr
  have F5 := Lib.hid (Gr.trans F4.out f5)
  have HC := Lib.hid hc
  clear f5 F4 hc
  go_wp2_with (refine wpList_fresh (vs := #[.int .u16 1, .bool false, .int .u8 0, .bool false, .bool false, .bool false, .bool false, .int .u8 0, .int .u8 0, .int .u16 1, .int .u16 0, .int .u16 0, .int .u16 0, .bool true, .slice a 1 cap, .int .u16 1, .int .u16 1]) hq1 hq2 Try.infoQuery17 (by rfl) (by rw [← Array.all_toList]; rfl) (by rfl) (by rfl) ?_)
  intro w6 f6 b6 l6
  have F6 := Lib.hid (Gr.trans F5.out f6)
  have c1 := f6.cell HC.out (fun h => h)
  have c13 : w6.cell? ⟨w5.heap.size, 13, none⟩ = some (.bool true) := by rw [Lib.cell_of_heap b6]; rfl
  clear f6 b6 F5 HC
  go_wp2_with fail
  go_ret
  exact ⟨rfl, F6.out⟩
end Go.Proofs.Ytkclgemkeifbaaa
