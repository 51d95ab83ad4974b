/-
  StreamPieces: its second loop.
-/
import Derived.Test.YtkclgemkeifbaaaSPTailB
namespace Go.Proofs.Ytkclgemkeifbaaa
open Go.RowKit Go.Proofs

set_option maxHeartbeats 16000000 in
set_option maxRecDepth 100000 in
theorem sp_tail2 {a : Option Addr} {cap : Nat} {l : List SMsg} {ac : Option Addr} {capc : Nat} {cuts : List Int} {s : List UInt8} {W : World} {i1 : TypeInfo}
    (hi1 : Try.prog.info? 30 = some i1)
    (hi2 : i1.zero = some msgZeroV)
    (hi3 : i1.size = 7)
    (hi4 : i1.bytes = 104)
    (HC : Hid (SlA W ac cuts.length capc (List.map (Value.int IntKind.u8) cuts)))
    (HC8 : Hid (∀ (x : Int), x ∈ cuts → 0 ≤ x ∧ x < 256))
    (hcap : l.length ≤ cap)
    (hmax : cap ≤ 9223372036854775807)
    (hcapc : cuts.length ≤ capc)
    (hmaxc : capc ≤ 9223372036854775807) {wr : World} {u6 : Value} {u8 : Value} {u10 : Value} {u11 : Value} {u12 : Value} {u13 : Value} {u14 : Value} {u39 : Value} {u40 : Value} {u41 : Value} {u42 : Value} {u43 : Value} {u44 : Value} {u45 : Value} {u46 : Value} {u47 : Value} {u48 : Value} {u49 : Value} {u50 : Value} {u51 : Value} {u52 : Value} {u53 : Value} {u54 : Value} {u55 : Value} {u56 : Value} {u57 : Value} {u58 : Value} {u59 : Value} {u60 : Value} {u61 : Value} {u62 : Value} {u63 : Value} {u64 : Value} {u65 : Value} {u66 : Value} {u67 : Value} {u68 : Value} {u69 : Value} {u70 : Value} {u71 : Value} {u72 : Value} {u73 : Value} {u74 : Value} {u75 : Value} {u76 : Value} {u77 : Value} {i : Nat} {L : List (Msg × MsgP)}
    (M0 : Hid (MsgsOwn W.heap.size wr L u8)) {u31 : Value} {u32 : Value} {u33 : Value} {u34 : Value} {u35 : Value} {u36 : Value} {u37 : Value} {m : Nat}
    (hm1 : m ≤ s.length)
    (_hm2 : m ≤ 40)
    (hite : (if 40 < (↑s.length : Int) then 40 else (↑s.length : Int)) = (↑m : Int))
    (_hmin : min (↑s.length : Int) 40 = (↑m : Int))
    (hsz : (ByteArray.mk (s.toArray)).size = s.length) {J : List UInt8}
    (hx1 : (ByteArray.mk (s.toArray)).extract 0 m = (ByteArray.mk (J.toArray)))
    (hJl : J.length ≤ 40) {fb : List UInt8}
    (hfbl : fb.length ≤ 816) {wn : List Msg}
    (HLM : Hid (List.map Prod.fst L = wn))
    (z1 : (ByteArray.mk (fb.toArray)).size = fb.length)
    (z2 : (ByteArray.mk (J.toArray)).size = J.length)
    (hwl : wn.length ≤ 8) {A : List UInt8}
    (HFD : Hid (feed A = (wn ++ (feed J).fst, (feed J).snd)))
    (hA : A.length ≤ 856)
    (hx2 : (ByteArray.mk (fb.toArray)) ++ (ByteArray.mk (J.toArray)) = (ByteArray.mk (A.toArray))) {w2 : World}
    (SX : Hid (SplAt w2 wr.heap.size [] 0))
    (_SY : Hid (SplAt w2 (wr.heap.size + 1) [] 0))
    (F2 : Hid (Gr W w2))
    (szr : W.heap.size ≤ wr.heap.size)
    (HS2 : Hid (w2.heap.size = wr.heap.size + 2))
    (HW2 : Hid (w2 = (wr.alloc (Obj.cells #[Value.string (ByteArray.mk (#[])), Value.int IntKind.i64 0] 54)).alloc (Obj.cells #[Value.string (ByteArray.mk (#[])), Value.int IntKind.i64 0] 54)))
    (T2 : Hid (Fr (fun (k : Nat) => wr.heap.size ≤ k) wr w2))
    (C1 : Hid (Calls Try.prog 24 #[Value.pointer (some { block := wr.heap.size + 1, off := 0 }), Value.string (ByteArray.mk (A.toArray))] w2 (FeedPost w2 (wr.heap.size + 1) (feedFrom ([], 0) A)))) :
    Code.wp Try.prog (codeAt [1, 1, 1, 1, 1, 0] ((Try.f10).body.getD .skip)) (Exit.then (fun a w => Code.wp Try.prog (codeAt [1, 1, 1, 1, 1, 1] ((Try.f10).body.getD .skip)) (bodyPost Try.prog Try.f10 fun (e : Ending) (w' : World) => e = Ending.returned (Value.bool true) ∧ Below W.heap.size W w') a w) (bodyPost Try.prog Try.f10 fun (e : Ending) (w' : World) => e = Ending.returned (Value.bool true) ∧ Below W.heap.size W w')) ⟨List.toArray (Value.slice a l.length cap :: Value.slice ac cuts.length capc :: Value.string (ByteArray.mk (s.toArray)) :: undef :: undef :: undef :: u6 :: Value.string (ByteArray.mk (fb.toArray)) :: u8 :: Value.int IntKind.i64 (↑i : Int) :: u10 :: u11 :: u12 :: u13 :: u14 :: undef :: undef :: undef :: undef :: undef :: undef :: undef :: undef :: undef :: undef :: undef :: undef :: undef :: undef :: Value.bool true :: Value.bool false :: u31 :: u32 :: u33 :: u34 :: u35 :: u36 :: u37 :: Value.bool false :: u39 :: u40 :: u41 :: u42 :: u43 :: u44 :: u45 :: u46 :: u47 :: u48 :: u49 :: u50 :: u51 :: u52 :: u53 :: u54 :: u55 :: u56 :: u57 :: u58 :: u59 :: u60 :: u61 :: u62 :: u63 :: u64 :: u65 :: u66 :: u67 :: u68 :: u69 :: u70 :: u71 :: u72 :: u73 :: u74 :: u75 :: u76 :: u77 :: undef :: undef :: undef :: undef :: undef :: undef :: undef :: undef :: undef :: undef :: undef :: undef :: undef :: undef :: undef :: undef :: undef :: undef :: undef :: undef :: undef :: undef :: undef :: undef :: undef :: undef :: undef :: undef :: undef :: undef :: undef :: undef :: undef :: undef :: undef :: undef :: undef :: undef :: undef :: undef :: undef :: undef :: undef :: undef :: undef :: undef :: undef :: undef :: undef :: undef :: undef :: undef :: undef :: undef :: undef :: undef :: undef :: undef :: undef :: undef :: undef :: undef :: undef :: undef :: undef :: undef :: undef :: undef :: undef :: undef :: undef :: undef :: undef :: undef :: undef :: undef :: undef :: undef :: undef :: undef :: undef :: undef :: undef :: undef :: undef :: undef :: undef :: undef :: undef :: undef :: undef :: undef :: undef :: undef :: undef :: undef :: undef :: undef :: undef :: undef :: undef :: undef :: undef :: undef :: undef :: undef :: undef :: undef :: undef :: undef :: undef :: undef :: undef :: undef :: undef :: undef :: undef :: undef :: undef :: undef :: undef :: undef :: undef :: undef :: undef :: undef :: undef :: undef :: undef :: undef :: undef :: undef :: undef :: undef :: undef :: undef :: undef :: undef :: undef :: undef :: []), []⟩ wr := by
  conv => arg 2; whnf
  go_wp2_with fail
  conv => arg 2; whnf
  go_wp2_with fail
  rw [← HW2.out]
  clear HW2
  refine C1.out.mono ?_
  rintro e w3 h3
  obtain ⟨f3, sy3, L3, a3, p3, hL3, rfl, m3⟩ := feed_ends h3
  rw [show feedFrom ([], 0) A = feed A from rfl] at sy3 hL3
  have SX3 := Lib.hid (SX.out.keep f3 (by omega))
  have SY3 := Lib.hid sy3
  have M3 := Lib.hid m3
  have HL3 := Lib.hid hL3
  have T3 := Lib.hid (Fr.trans T2.out f3 (fun k h => .inl (by omega)))
  have W3 : Hid (MsgsOwn W.heap.size w3 L u8) := Lib.hid (M0.out.far T3.out (fun k h => h))
  have F3 : Hid (Gr W w3) := Lib.hid (Fr.trans F2.out f3 (fun q h => .inr (by omega)))
  have HS3 : Hid (wr.heap.size + 2 ≤ w3.heap.size) := Lib.hid (by have := f3.size; have := HS2.out; omega)
  clear f3 sy3 hL3 m3 h3 C1 F2 SX _SY T2
  go_wp2_with fail
  generalize hqx : wr.heap.size = qx at *
  have HQX := Lib.hid hqx
  clear hqx
  go_loopw [19, 20, 21] (fun gv rv jv wx => ∃ (t r : List UInt8) (G : List (Msg × MsgP)) (j : Nat), rv = .string ⟨r.toArray⟩ ∧ jv = .int .i64 j ∧ j ≤ 1000 ∧ j + r.length ≤ 900 ∧ PcSt w3 qx A t r G gv wx) (fun _ rv _ _ => match rv with | .string x => x.size | _ => 0)
  case atStart => exact ⟨[], A, [], 0, rfl, rfl, by omega, by omega, by simp, MsgsOwn.nil _ _, rfl, SX3.out, Fr.refl _ _⟩
  case round =>
    obtain ⟨t, r, G, j, rfl, rfl, hj, hjr, st⟩ := hrel
    have ST := Lib.hid st
    clear st
    by_cases hr : r = []
    · subst hr
      have ht : t = A := by have := ST.out.cut; simpa using this
      subst ht
      obtain ⟨ag, pg, rfl, -⟩ := SlA.of_own ST.out.got.row
      obtain ⟨aw, pw, rfl, -⟩ := SlA.of_own M0.out.row
      have hms : G.map Prod.fst = L3.map Prod.fst := by rw [ST.out.ms, HL3.out]
      have hgl : (G.length : Int) = (L3.length : Int) := by have := congrArg List.length hms; simp at this; omega
      have hwm : L3.map Prod.fst = L.map Prod.fst ++ (feed J).1 := by rw [HL3.out, HFD.out, HLM.out]
      have hll := congrArg List.length hwm
      simp only [List.length_append, List.length_map] at hll
      have hlw : (L.length : Int) ≤ (L3.length : Int) := by omega
      have hb3 : (L3.length : Int) ≤ 1000 := by have h1 := congrArg List.length HL3.out; have h2 := feed_few t; simp at h1; omega
      have sx := ST.out.spl
      have sy := SY3.out.keep ST.out.fr (by omega)
      have hst : (feed t).2 = (feed J).2 := by rw [HFD.out]
      rw [hst] at sx sy
      obtain ⟨⟨u, c⟩, huc⟩ : ∃ st, st = (feed J).2 := ⟨_, rfl⟩
      rw [← huc] at sx sy
      have SX := Lib.hid sx
      have SY := Lib.hid sy
      have HMS := Lib.hid hms
      have HWM := Lib.hid hwm
      have HUC := Lib.hid huc
      have hq0 := HQX.out
      have F5 : Hid (Gr W wr) := Lib.hid (Fr.trans F3.out ST.out.fr (fun k h => .inr (by omega)))
      have G5 := Lib.hid ST.out.got
      have K5 := Lib.hid (M3.out.keep ST.out.fr (fun k h => by have := HS2.out; omega))
      have W5 := Lib.hid (M0.out.far (Fr.trans T3.out ST.out.fr (fun k h => .inl (by omega))) (fun k h => by omega))
      clear hll hms hwm sx sy hst huc hA hx2 z1 z2 hjr hj HC8 hfbl hx1 hite _hmin hm1 _hm2 hsz HC
      obtain ⟨w5x, rfl⟩ : ∃ w5x : World, w5x = wr := ⟨_, rfl⟩
      have dlt : decide (L3.length < L.length) = false := decide_eq_false (by omega)
      have t1 := Lib.hid (splBad_any SX.out)
      have t2 := Lib.hid (splBad_any SY.out)
      have t3 := Lib.hid (splLeft_any SX.out)
      have t4 := Lib.hid (splLeft_any SY.out)
      go_wp2_with fail
      refine t1.out.mono ?_
      rintro e w6 ⟨rfl, rfl⟩
      go_wp2_with fail
      refine t2.out.mono ?_
      rintro e w6 ⟨rfl, rfl⟩
      go_wp2_with fail
      refine t3.out.mono ?_
      rintro e w6 ⟨rfl, rfl⟩
      go_wp2_with fail
      refine t4.out.mono ?_
      rintro e w6 ⟨rfl, rfl⟩

      clear t1 t2 t3 t4
      go_upto_region 31 with fail
      refine wp_tail2 ?_ (by assumption) (by assumption)
      exact sp_tail3 hi1 hi2 hi3 hi4 hcap hmax hcapc hmaxc hJl HLM hwl M3 F3 szr HS2 SX3 T3 HS3 HQX HFD HL3 SY3 M0 W3 hgl hlw hb3 HMS HWM HUC hq0 ST SX SY F5 G5 K5 W5 dlt
    · have hr0 : 0 < r.length := List.length_pos_iff.2 hr
      have hne : r.isEmpty = false := by simpa using hr
      have zr := mk_size r
      by_cases hjc : j < cuts.length
      · obtain ⟨bc, oc, rfl, hcj⟩ := (HC.out.old (Fr.trans F3.out ST.out.fr (fun k h => .inr (by omega))) (fun k h => h.elim)).cell j (.int .u8 cuts[j]) (by simp)
        obtain ⟨hx0, hx8⟩ := HC8.out cuts[j] (List.getElem_mem hjc)
        generalize cuts[j] = x at *
        obtain ⟨kk, hk1, hk2, hk3, hk4⟩ : ∃ kk : Nat, 1 ≤ kk ∧ kk ≤ r.length ∧ (if (r.length : Int) < 1 + x then (r.length : Int) else 1 + x) = (kk : Int) ∧ min (1 + x) (r.length : Int) = (kk : Int) := ⟨min (1 + x.toNat) r.length, by omega, by omega, by split <;> omega, by omega⟩
        have hx3 : (⟨r.toArray⟩ : ByteArray).extract 0 kk = ⟨(r.take kk).toArray⟩ := by rw [mk_extract, List.drop_zero]
        go_wp2_with fail
        refine (from_any (st := (feed t).2) (r.take kk) ST.out.spl (by have := feed_shorter t; have := congrArg List.length ST.out.cut; simp at this; rw [List.length_take]; omega)).mono ?_
        rintro e w5 h5
        obtain ⟨f5, sx5, L5, a5, p5, hL5, rfl, m5⟩ := feed_ends h5
        have G5 := Lib.hid (ST.out.got.keep f5 (fun k h => by have := HS3.out; omega))
        have M5 := Lib.hid m5
        have hsz5 := f5.size
        have hsz3 := ST.out.fr.size
        have hb5 : G.length + L5.length ≤ 1000000 := by
          have h1 := congrArg List.length ST.out.ms
          have h2 := congrArg List.length hL5
          have h3 := feed_few t
          have h4 := congrArg List.length ST.out.cut
          have h5 := feed_few (t ++ r.take kk)
          rw [feed_from] at h5
          simp at h1 h2 h4 h5; omega
        have HL5 := Lib.hid hL5
        have SX5 := Lib.hid sx5
        have F5 := Lib.hid (Fr.trans ST.out.fr f5 (fun k h => .inl h))
        clear f5 sx5 hL5 m5 h5
        go_wp2_with (at_builtin; refine wpList_app rfl _ _ rfl G5.out M5.out rfl rfl (by omega) hb5 ?_)
        intro v6 w6 hM hrow hg hat
        have f6 : Fr (fun k => u19.ownBlock = some k) w5 w6 := (Fr.refl _ _).grown hg (fun q hq => .inl hq)
        have P6 : Hid (PcSt w3 qx A (t ++ r.take kk) (r.drop kk) (G ++ L5) v6 w6) := Lib.hid (by
          refine ⟨by rw [List.append_assoc, List.take_append_drop]; exact ST.out.cut, hM.base (by omega), ?_, ?_, ?_⟩
          · rw [List.map_append, ST.out.ms, HL5.out, feed_from]
          · rw [feed_from]; exact SX5.out.keep f6 (fun h => by have := (G5.out.row.lt _ h).1; have := HS3.out; omega)
          · exact Fr.trans F5.out f6 (fun k h => .inr (G5.out.row.lt k h).1))
        clear hM hrow hg hat f6 G5 M5 HL5 SX5 F5 ST
        have hx4 : (⟨r.toArray⟩ : ByteArray).extract kk r.length = ⟨(r.drop kk).toArray⟩ := by rw [mk_extract, List.take_length]
        go_wp2_with fail
        go_roundw
        case rel => exact ⟨_, r.drop kk, G ++ L5, j + 1, rfl, by go_num, by omega, by rw [List.length_drop]; omega, P6.out⟩
        case measure => show (ByteArray.mk (r.drop kk).toArray).size < (ByteArray.mk r.toArray).size; rw [mk_size, mk_size, List.length_drop]; omega
      · have hk2 : 1 ≤ r.length := hr0
        have hx3 : (⟨r.toArray⟩ : ByteArray).extract 0 1 = ⟨(r.take 1).toArray⟩ := by rw [mk_extract, List.drop_zero]
        go_wp2_with fail
        refine (from_any (st := (feed t).2) (r.take 1) ST.out.spl (by have := feed_shorter t; have := congrArg List.length ST.out.cut; simp at this; rw [List.length_take]; omega)).mono ?_
        rintro e w5 h5
        obtain ⟨f5, sx5, L5, a5, p5, hL5, rfl, m5⟩ := feed_ends h5
        have G5 := Lib.hid (ST.out.got.keep f5 (fun k h => by have := HS3.out; omega))
        have M5 := Lib.hid m5
        have hsz5 := f5.size
        have hsz3 := ST.out.fr.size
        have hb5 : G.length + L5.length ≤ 1000000 := by
          have h1 := congrArg List.length ST.out.ms
          have h2 := congrArg List.length hL5
          have h3 := feed_few t
          have h4 := congrArg List.length ST.out.cut
          have h5 := feed_few (t ++ r.take 1)
          rw [feed_from] at h5
          simp at h1 h2 h4 h5; omega
        have HL5 := Lib.hid hL5
        have SX5 := Lib.hid sx5
        have F5 := Lib.hid (Fr.trans ST.out.fr f5 (fun k h => .inl h))
        clear f5 sx5 hL5 m5 h5
        go_wp2_with (at_builtin; refine wpList_app rfl _ _ rfl G5.out M5.out rfl rfl (by omega) hb5 ?_)
        intro v6 w6 hM hrow hg hat
        have f6 : Fr (fun k => u19.ownBlock = some k) w5 w6 := (Fr.refl _ _).grown hg (fun q hq => .inl hq)
        have P6 : Hid (PcSt w3 qx A (t ++ r.take 1) (r.drop 1) (G ++ L5) v6 w6) := Lib.hid (by
          refine ⟨by rw [List.append_assoc, List.take_append_drop]; exact ST.out.cut, hM.base (by omega), ?_, ?_, ?_⟩
          · rw [List.map_append, ST.out.ms, HL5.out, feed_from]
          · rw [feed_from]; exact SX5.out.keep f6 (fun h => by have := (G5.out.row.lt _ h).1; have := HS3.out; omega)
          · exact Fr.trans F5.out f6 (fun k h => .inr (G5.out.row.lt k h).1))
        clear hM hrow hg hat f6 G5 M5 HL5 SX5 F5 ST
        have hx4 : (⟨r.toArray⟩ : ByteArray).extract 1 r.length = ⟨(r.drop 1).toArray⟩ := by rw [mk_extract, List.take_length]
        go_wp2_with fail
        go_roundw
        case rel => exact ⟨_, r.drop 1, G ++ L5, j + 1, by rw [List.drop_one], by go_num, by omega, by rw [List.length_drop]; omega, P6.out⟩
        case measure => show (ByteArray.mk r.tail.toArray).size < (ByteArray.mk r.toArray).size; rw [mk_size, mk_size, List.length_tail]; omega
end Go.Proofs.Ytkclgemkeifbaaa
