/-
  The contract of draw.Some at integers, also with a draw that is nil: it returns what someS computes.
-/
import Derived.Test.YtdpnkikaciigoaaDrawV
import Derived.Test.YtdpnkikaciigoaaOwn
import Derived.Test.YtdpnkikaciigoaaSlcInt
namespace Go.Proofs.Ytdpnkikaciigoaa
open Go.RowKit Go.Proofs

theorem DrawV.keepGE {S : Nat → Prop} {w w' : World} {p : Value} {ds : List Int} {B : Nat} (h : DrawV w p ds) (f : Fr S w w') (hS : ∀ k, S k → B ≤ k) (hp : ∀ k, pblk p k → k < B) : DrawV w' p ds := by
  rcases h with h | ⟨d, h1, h2⟩
  · exact .inl h
  · exact .inr ⟨d, h1, h2.keep f (fun k hk hs => by have := hp d h1; have := hS _ hs; omega)⟩
theorem DrawV.lt' {w : World} {p : Value} {ds : List Int} (h : DrawV w p ds) : ∀ k, pblk p k → k < w.heap.size := by
  intro k hk
  rcases h with ⟨rfl, _⟩ | ⟨d, rfl, h2⟩
  · unfold pblk at hk; cases hk
  · unfold pblk at hk; cases hk; exact h2.lt

set_option maxRecDepth 100000 in
set_option maxHeartbeats 1000000 in
theorem someV_int (p : Value) (l : List Int) (a : Option Addr) (cap : Nat) (cs : List Int) (n : Int) (w : World) (hD : DrawV w p l) (h : SlA w a cs.length cap (cs.map (Value.int .i64))) (hb : cs.length * 8 ≤ 140737488355328) (hn : -9223372036854775808 ≤ n ∧ n ≤ 9223372036854775807) :
    Calls Try.prog 82 #[p, .slice a cs.length cap, .int .i64 n] w fun e w' => ∃ v, e = .returned v ∧ w'.ownsRow w.heap.size 3 1 v (someS cs.length l cs n).1.length ((someS cs.length l cs n).1.map (Value.int .i64)) ∧
      DrawV w' p (someS cs.length l cs n).2 ∧ Fr (pblk p) w w' := by
  obtain ⟨i0, hi, hz0, hz1, hz2⟩ := info_parts Try.infoint
  have hdw := hD.lt'
  have hn1 := hn.1
  have hn2 := hn.2
  clear hn
  have H := Lib.hid h; clear h
  go_enter Try.func82, Try.ntmps82
  go_wp2_with fail
  refine (clone_int a _ cap _ w H.out (by simp) (by intro u hu; obtain ⟨x, _, rfl⟩ := List.mem_map.1 hu; rfl) hb).mono ?_
  rintro e w1 ⟨v1, rfl, hown, _, hbl⟩
  have hs1 := hbl.size
  obtain ⟨a1, cap1, rfl, hsl, hpa, _⟩ := SlA.of_own hown
  have hD1 : DrawV w1 p l := hD.keepGE (B := w.heap.size) (S := fun k => w.heap.size ≤ k) (Fr.of_below hbl (fun _ _ h => h)) (fun _ h => h) hdw
  have HO := Lib.hid hown; clear hown
  clear hpa hsl
  go_wp2_with fail
  go_loopw [2, 7, 8] (fun nv lv ov wr => ∃ (m : Int) (lf out : List Int) (ll : List Int) (a2 : Option Addr) (cap2 : Nat), nv = .int .i64 m ∧ lv = .slice a2 lf.length cap2 ∧ -9223372036854775808 ≤ m ∧ m ≤ 9223372036854775807 ∧ lf.length + out.length ≤ cs.length ∧
      wr.ownsRow w.heap.size 3 1 lv lf.length (lf.map (Value.int .i64)) ∧ (∀ p, a2 = some p → p.block < w1.heap.size) ∧ wr.ownsRow w1.heap.size 3 1 ov out.length (out.map (Value.int .i64)) ∧ DrawV wr p ll ∧ Fr (pblk p) w wr ∧ w1.heap.size ≤ wr.heap.size ∧
      someS cs.length l cs n = (out ++ (someS lf.length ll lf m).1, (someS lf.length ll lf m).2)) (fun _ lv _ _ => slLen lv)
  case atStart =>
    refine ⟨n, cs, [], l, a1, cap1, rfl, rfl, hn1, hn2, by simp, HO.out, ?_, World.ownsRow_nil _ _ _ _, hD1, Fr.of_below hbl (fun k h1 h2 => by omega), Nat.le_refl _, by simp⟩
    obtain ⟨a', c', hv, _, hp, _⟩ := SlA.of_own HO.out
    cases hv
    exact fun p hp' => (hp p hp').2.1
  case round =>
    obtain ⟨m, lf, out, ll, a2, cap2, rfl, rfl, hm1, hm2, hlo, hO2, ha2, hO3, hDr, hfr, hsz, hsp⟩ := hrel
    have hfs := hfr.size
    have HS := Lib.hid hsp; clear hsp
    have HO2 := Lib.hid hO2; clear hO2
    have HO3 := Lib.hid hO3; clear hO3
    have hcm : cs.length * 8 ≤ 140737488355328 := by omega
    by_cases hm0 : 0 < m
    · by_cases hl0 : 0 < lf.length
      · have hr4 := hDr.range
        obtain ⟨hb1, hb2⟩ := belN_eq ll lf.length hr4 hl0
        obtain ⟨a', c', hv, hsl, hp, _⟩ := SlA.of_own HO2.out
        cases hv
        obtain ⟨g, o, rfl, hcell⟩ := hsl.cell (belN ll lf.length) ((Value.int .i64) lf[belN ll lf.length]) (by simp [hb2])
        have hp3 := hp _ rfl
        have ho0 := hp3.2.2
        simp only at ho0
        subst ho0
        rw [Nat.zero_add] at hcell
        have hg1 : w.heap.size ≤ g := hp3.1
        have hg2 : g < w1.heap.size := ha2 _ rfl
        clear hp hp3 ha2
        have hstep := someS_step (lf.length - 1) ll lf m hm0 _ rfl hb2
        rw [show lf.length - 1 + 1 = lf.length by omega] at hstep
        have HST := Lib.hid hstep; clear hstep
        generalize hbk : belN ll lf.length = k at *
        have HBK := Lib.hid hbk; clear hbk
        have HB1 := Lib.hid hb1; clear hb1
        clear hsl hr4
        go_wp2_with fail
        refine (belowV_any p ll lf.length wr hDr).mono ?_
        rw [HB1.out]
        rintro e w2 ⟨rfl, hD2, hf2⟩
        have hcell2 := hf2.cell hcell (fun hp => by have := hdw _ hp; simp only at this; omega)
        have hs2 := hf2.size
        have hO2b := own_fr HO2.out hf2 (by intro q hq hqd; simp [Value.ownBlock] at hq; have := hdw _ hqd; omega)
        have hO3b := own_fr HO3.out hf2 (by intro q hq hqd; have := (HO3.out.lt q hq).1; have := hdw _ hqd; omega)
        have HO2' := Lib.hid hO2b; clear hO2b
        have HO3' := Lib.hid hO3b; clear hO3b
        clear hcell
        go_wp2_with (at_builtin; refine wpList_append_own _ rfl _ _ 22 rfl w1.heap.size 3 i0 (.int .i64 0) 1 8 Try.underlying22 hi hz0 hz1 hz2 rfl (by decide) _ out.length (out.map (Value.int .i64)) rfl (HO3'.out.alloc _) ⟨w2.heap.size, 0, none⟩ 1 1 [(Value.int .i64) lf[k]] rfl rfl ?c1 ?c2 ?c3 ?c4 ?c5 ?_)
        case c1 =>
          intro j u hj
          match j, hj with
          | 0, hj =>
            simp at hj; subst hj
            rw [Addr.add_lit, Nat.add_zero, World.cell?_alloc_at _ _ _ _ rfl]; rfl
        case c2 => intro u hu; simp at hu; subst hu; rfl
        case c3 => unfold maxLen; omega
        case c4 => omega
        case c5 => simp; omega
        intro v3 w3 hown3 hgrow3 _
        have hs3 := hgrow3.size
        simp only [World.size_alloc] at hs3
        have hO2c := (HO2'.out.alloc (.cells #[(Value.int .i64) lf[k]] 3)).kept hgrow3 (by
          right; intro he
          have h1 : (Value.slice (some ⟨g, 0, none⟩) lf.length cap2).ownBlock = some g := rfl
          rw [h1] at he
          have := (HO3'.out.lt g he.symm).1
          omega)
        have HO2'' := Lib.hid hO2c; clear hO2c
        have hfd : Fr (fun k => w1.heap.size ≤ k) w2 w3 := ((Fr.refl (fun k => w1.heap.size ≤ k) w2).alloc (.cells #[(Value.int .i64) lf[k]] 3)).grown hgrow3 (by
          intro q hq; left; exact (HO3'.out.lt q hq).1)
        have hD3 : DrawV w3 p (bel ll ↑lf.length).2 := hD2.keepGE (B := w.heap.size) hfd (fun k hk => by omega) hdw
        clear hfd
        have hfr3 : Fr (pblk p) w w3 := ((hfr.trans hf2 (by intro q hq; exact .inl hq)).alloc (.cells #[(Value.int .i64) lf[k]] 3)).grown hgrow3 (by
          intro q hq; right; have := (HO3'.out.lt q hq).1; omega)
        have HO3'' := Lib.hid hown3; clear hown3
        clear hcell2 hgrow3
        go_wp2_with fail
        refine (delete_int w.heap.size g cap2 k lf w3 HO2''.out hb2).mono ?_
        rintro e w4 ⟨rfl, hO4, hf4⟩
        have hs4 := hf4.size
        have hO3d := own_fr HO3''.out hf4 (by intro q hq hqd; have := (HO3''.out.lt q hq).1; omega)
        have HO4 := Lib.hid hO4; clear hO4
        have HO3d := Lib.hid hO3d; clear hO3d
        go_wp2_with fail
        go_roundw
        case rel =>
          have hle : (lf.eraseIdx k).length = lf.length - 1 := by rw [List.length_eraseIdx, if_pos hb2]
          refine ⟨m - 1, lf.eraseIdx k, out ++ [lf[k]], (bel ll ↑lf.length).2, some ⟨g, 0, none⟩, cap2, rfl, by rw [hle], by omega, by omega, by simp; omega, by have := HO4.out; rw [hle] at this ⊢; exact this, by intro p hp; cases hp; exact hg2, by simpa using HO3d.out, ?_, ?_, by omega, ?_⟩
          · exact hD3.keepGE (B := w.heap.size) hf4 (fun k hk => by omega) hdw
          · exact hfr3.trans hf4 (by intro q hq; right; omega)
          · rw [HS.out, HST.out, hle]
            simp
        case measure => simp [slLen]; omega
      · go_wp2_with fail
        go_ret
        refine ⟨_, rfl, ?_, ?_, hfr⟩
        · have e0 := HS.out
          rw [someS_stop _ ll lf m (by omega)] at e0
          rw [e0]; simpa using own_base HO3.out (by omega)
        · have e0 := HS.out
          rw [someS_stop _ ll lf m (by omega)] at e0
          rw [e0]; exact hDr
    · go_wp2_with fail
      go_ret
      refine ⟨_, rfl, ?_, ?_, hfr⟩
      · have e0 := HS.out
        rw [someS_stop _ ll lf m (by omega)] at e0
        rw [e0]; simpa using own_base HO3.out (by omega)
      · have e0 := HS.out
        rw [someS_stop _ ll lf m (by omega)] at e0
        rw [e0]; exact hDr
end Go.Proofs.Ytdpnkikaciigoaa
