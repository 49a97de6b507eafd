/- The law EvalNames, walked: it returns true. Conditions: the arguments lie in memory. -/
import Derived.Test.YtnbclbphggmenaaEvalAllW
import Derived.Test.YtnbclbphggmenaaNamesQ
import Derived.Test.YtnbclbphggmenaaGathS
import Derived.Test.YtnbclbphggmenaaAppA
import Derived.Deep.RegionLaw
import Derived.Test.YtnbclbphggmenaaOpen
import Derived.Deep.DeepCutAuto
namespace Go.Proofs.Ytnbclbphggmenaa.Tr
open Go.RowKit Go.Proofs.Ytnbclbphggmenaa.Lx Go.Proofs.Ytnbclbphggmenaa.Wd
def sOther : ByteArray := ⟨#[111, 116, 104, 101, 114]⟩
def sX9 : ByteArray := ⟨#[120, 57]⟩
def lenV : Value → Nat
  | .slice _ n _ => n
  | _ => 0
theorem infoI642 : (Try.prog.info? 2).map (fun i => (i.zero, i.size, i.bytes)) = some (some (.int .i64 0), 1, 8) := by kernel_rfl
set_option maxHeartbeats 8000000 in
set_option maxRecDepth 100000 in
theorem law_evalNames {w : World} (dx : Nat) (x : Ex) (kx : Value) (hokx : OkE x) (hkx : ExK dx w kx x.ks) (vv : Value) (vs : List Int) (hvs : IntsAt w vv vs) (ov : Value) (os : List Int) (hos : IntsAt w ov os) :
    Calls Try.prog 6 #[exV x kx, vv, ov] w fun e w' => e = .returned (.bool true) ∧ Below w.heap.size w w' := by
  obtain ⟨ax, cx, rfl, _, _⟩ := hkx.form
  obtain ⟨va, vc, rfl, vh1, vh2⟩ := hvs.form
  obtain ⟨oa, oc, rfl, oh1, oh2⟩ := hos.form
  have hbox : Below w.heap.size w (w.alloc (.cells #[.int .i64 x.op, .int .i64 x.n, .string x.nm, .slice ax x.ks.length cx] 24)) := boxed w _
  have HB := Lib.hid hbox
  have HKX := Lib.hid (hkx.next hbox)
  have HOS := Lib.hid (hos.next hbox)
  have HVS := Lib.hid (hvs.next hbox)
  have HOX := Lib.hid hokx
  clear hbox hkx hos hvs hokx
  unfold exV
  go_enter Try.func6, Try.ntmps6
  go_wp2_with fail
  refine (reckoned_any _).mono ?_
  rintro e w1 ⟨rfl, hb⟩
  have p0 := cell_next (g := w.heap.size) (j := 0) (u := .int .i64 x.op) hb (by simp [go_sem])
  have p1 := cell_next (g := w.heap.size) (j := 1) (u := .int .i64 x.n) hb (by simp [go_sem])
  have p2 := cell_next (g := w.heap.size) (j := 2) (u := .string x.nm) hb (by simp [go_sem])
  have p3 := cell_next (g := w.heap.size) (j := 3) (u := .slice ax x.ks.length cx) hb (by simp [go_sem])
  replace HKX := Lib.hid (HKX.out.next hb)
  replace HOS := Lib.hid (HOS.out.next hb)
  replace HVS := Lib.hid (HVS.out.next hb)
  replace HB := Lib.hid (HB.out.trans (hb.mono HB.out.size))
  clear hb
  go_wp2_with fail
  refine (fitsExpr_any dx x _ _ HOX.out HKX.out).mono ?_
  rintro e w2 ⟨bf, -, rfl, hb⟩
  replace p0 := cell_next hb p0
  replace p1 := cell_next hb p1
  replace p2 := cell_next hb p2
  replace p3 := cell_next hb p3
  replace HKX := Lib.hid (HKX.out.next hb)
  replace HOS := Lib.hid (HOS.out.next hb)
  replace HVS := Lib.hid (HVS.out.next hb)
  replace HB := Lib.hid (HB.out.trans (hb.mono HB.out.size))
  clear hb
  cases bf with
  | false =>
    go_wp2_with fail
    go_ret
    exact ⟨rfl, HB.out⟩
  | true =>
    obtain ⟨mx, hmx⟩ : ∃ mx, Hid (mayE 20 x = mx) := ⟨_, Lib.hid rfl⟩
    go_wp2_with fail
    refine (mayExpr_any dx x _ _ HOX.out HKX.out).mono ?_
    rintro e w9 ⟨rfl, hb⟩
    replace p0 := cell_next hb p0
    replace p1 := cell_next hb p1
    replace p2 := cell_next hb p2
    replace p3 := cell_next hb p3
    replace HKX := Lib.hid (HKX.out.next hb)
    replace HOS := Lib.hid (HOS.out.next hb)
    replace HVS := Lib.hid (HVS.out.next hb)
    replace HB := Lib.hid (HB.out.trans (hb.mono HB.out.size))
    clear hb
    rw [hmx.out]
    cases mx with
    | false =>
      go_wp2_with fail
      go_ret
      exact ⟨rfl, HB.out⟩
    | true =>
      obtain ⟨L, hL⟩ : ∃ L, Hid (namesE 20 x [] = L) := ⟨_, Lib.hid rfl⟩
      have hnm : namesOf x = L := by unfold namesOf; rw [if_pos hmx.out, hL.out]
      have HNM := Lib.hid hnm
      have hll : L.length ≤ 1048576 := by have := names_len 20 x [] hmx.out; rw [List.length_nil, hL.out] at this; omega
      clear hnm
      go_wp2_with fail
      refine (names_any dx x _ _ HOX.out HKX.out).mono ?_
      rintro e w8 ⟨v8, rfl, hr8, hb⟩
      rw [HNM.out] at hr8
      obtain ⟨la, lc, rfl⟩ := ownsForm hr8.1
      have HLS := Lib.hid (hr8.strs (by omega))
      clear hr8
      replace p0 := cell_next hb p0
      replace p1 := cell_next hb p1
      replace p2 := cell_next hb p2
      replace p3 := cell_next hb p3
      replace HKX := Lib.hid (HKX.out.next hb)
      replace HOS := Lib.hid (HOS.out.next hb)
      replace HVS := Lib.hid (HVS.out.next hb)
      replace HB := Lib.hid (HB.out.trans (hb.mono HB.out.size))
      clear hb
      go_upto_region 8 with fail
      go_cut [1] (fun x1 wx => ∃ k2 : Nat, k2 ≤ vs.length ∧ k2 ≤ L.length ∧ x1 = .slice va k2 vc ∧ wx = w8)
      case first =>
        by_cases hle : vs.length ≤ L.length
        · have hvi : (vs.length : Int) ≤ (L.length : Int) := by omega
          go_wp2_with fail
          go_meet
          exact ⟨vs.length, by omega, hle, rfl, rfl⟩
        · have hvi : ¬ (vs.length : Int) ≤ (L.length : Int) := by omega
          go_wp2_with fail
          go_meet
          exact ⟨L.length, by omega, by omega, rfl, rfl⟩
      case rest =>
      obtain ⟨k2, hk2, hk3, rfl, rfl⟩ := hcut
      replace HVS := Lib.hid (HVS.out.take k2 hk2)
      generalize vs.take k2 = vs at *
      obtain ⟨r1, r2, hR⟩ : ∃ r1 r2, Hid ((if mayE 20 x then evalE 20 x L vs else (0, false)) = (r1, r2)) := ⟨_, _, Lib.hid rfl⟩
      go_wp2_with fail
      refine (evalOf_any dx x _ _ _ _ _ _ HOX.out HKX.out HLS.out HVS.out).mono ?_
      rintro e w10 ⟨rfl, -, hb⟩
      rw [hR.out]
      replace HLS := Lib.hid (HLS.out.next hb)
      replace p0 := cell_next hb p0
      replace p1 := cell_next hb p1
      replace p2 := cell_next hb p2
      replace p3 := cell_next hb p3
      replace HKX := Lib.hid (HKX.out.next hb)
      replace HOS := Lib.hid (HOS.out.next hb)
      replace HVS := Lib.hid (HVS.out.next hb)
      replace HB := Lib.hid (HB.out.trans (hb.mono HB.out.size))
      clear hb
      obtain ⟨i0, hi, hz0, hz1, hz2⟩ := info_parts infoStr
      obtain ⟨i1, hi', hz0', hz1', hz2'⟩ := info_parts infoI642
      obtain ⟨vk, vz, vnew⟩ := HVS.out.news
      obtain ⟨lk, lz, lnew⟩ := HLS.out.news
      have VNEW := Lib.hid vnew
      have LNEW := Lib.hid lnew
      have VZ := Lib.hid vz
      have LZ := Lib.hid lz
      have VK := Lib.hid vk
      have VALL := Lib.hid HVS.out.all
      have LALL := Lib.hid HLS.out.all
      clear vnew lnew vz lz vk lk
      go_wp2_with (at_builtin; refine wpList_append_sl _ rfl (.tmp 38) (.tmp 39) 25 rfl w10.heap.size 9 i0 (.string ⟨#[]⟩) 1 16 Try.underlying25 hi hz0 hz1 hz2 rfl (by decide) _ 0 [] rfl ?oa1 la L.length lc (L.map Value.string) rfl LZ.out ?ob1 ?oc1 (str_all _) ?od1 ?oe1 ?of1 ?_)
      case oa1 => exact World.ownsRow_lit w10 #[] 0 (Nat.le_refl _) (by decide) rfl
      case ob1 => rw [List.length_map, Nat.mul_one]
      case oc1 => exact (HLS.out.next (boxed w10 _)).news.2.2
      case od1 => unfold maxLen; omega
      case oe1 => omega
      case of1 => simp
      intro v4 w4 hown4 hg4 hat4
      obtain ⟨la4, lc4, rfl⟩ := ownsForm hown4
      have hb4 : Below w10.heap.size w10 w4 := (boxed w10 _).grown hg4 (by simp) fun q hq => by have hqq : w10.heap.size = q := by { simpa [Value.ownBlock] using hq }; omega
      have HOWN4 := Lib.hid hown4
      have hs4 := hb4.size
      have hrr : ([.string sOther, .string sX9] : List Value).length = 2 * 1 := rfl
      clear hown4 hg4 hat4
      go_wp2_with (at_builtin; refine wpList_append_sl _ rfl (.tmp 40) (.tmp 41) 25 rfl w10.heap.size 9 i0 (.string ⟨#[]⟩) 1 16 Try.underlying25 hi hz0 hz1 hz2 rfl (by decide) _ L.length _ rfl (HOWN4.out.alloc _) (some ⟨w4.heap.size, 0, none⟩) 2 2 [.string sOther, .string sX9] rfl ?oz2 rfl ?oc2 ?oa2 ?od2 ?oe2 ?of2 ?_)
      case oz2 => intro h; cases h
      case oc2 =>
        intro ad had j u h
        cases had
        rw [Addr.add_lit]
        match j, h with
        | 0, h => cases h; simp [go_sem]; rfl
        | 1, h => cases h; simp [go_sem]; rfl
      case oa2 => exact str_all [sOther, sX9]
      case od2 => unfold maxLen; omega
      case oe2 => omega
      case of2 => simp; omega
      intro v5 w5 hown5 hg5 hat5
      obtain ⟨la5, lc5, rfl⟩ := ownsForm hown5
      have hb5 : Below w10.heap.size w10 w5 := (hb4.trans ((boxed w4 _).mono hs4)).grown hg5 (by simp; omega) fun q hq => (HOWN4.out.lt q hq).1
      have hs5 := hb5.size
      have HNM5 : Hid (RowS w10.heap.size w5 (.slice la5 (L.length + 2) lc5) (L ++ [sOther, sX9])) := Lib.hid ⟨by simpa using hown5, fun t ht => by
        rcases List.mem_append.1 ht with ht | ht
        · exact LALL.out t ht
        · simp at ht; rcases ht with rfl | rfl <;> decide⟩
      have HB5 := Lib.hid hb5
      clear hown5 hg5 hat5 hb4 hb5 hs4 HOWN4
      go_wp2_with (at_builtin; refine wpList_append_sl _ rfl (.tmp 43) (.tmp 44) 26 rfl w5.heap.size 2 i1 (.int .i64 0) 1 8 Try.underlying26 hi' hz0' hz1' hz2' rfl (by decide) _ 0 [] rfl ?oa3 va k2 vc (vs.map (Value.int .i64)) rfl VZ.out ?ob3 ?oc3 (int_all _) ?od3 ?oe3 ?of3 ?_)
      case oa3 => exact World.ownsRow_lit w5 #[] 0 (Nat.le_refl _) (by decide) rfl
      case ob3 => rw [List.length_map, Nat.mul_one, VK.out]
      case oc3 => exact (HVS.out.next (HB5.out.trans ((boxed w5 _).mono hs5))).news.2.2
      case od3 => unfold maxLen; omega
      case oe3 => omega
      case of3 => simp
      intro v6 w6 hown6 hg6 hat6
      obtain ⟨ma6, mc6, rfl⟩ := ownsForm hown6
      have hb6 : Below w5.heap.size w5 w6 := (boxed w5 _).grown hg6 (by simp) fun q hq => by have hqq : w5.heap.size = q := by { simpa [Value.ownBlock] using hq }; omega
      have HB6 := Lib.hid hb6
      have HOWN6 := Lib.hid hown6
      clear hown6 hg6 hat6 hb6
      go_wp2_with fail
      go_loopw [11] (fun s11 wr => ∃ (j : Nat) (vr : Value), k2 + j ≤ L.length ∧ s11 = vr ∧ wr.ownsRow w5.heap.size 2 1 vr (k2 + j) (vs.map (Value.int .i64) ++ List.replicate j (.int .i64 0)) ∧ Below w5.heap.size w5 wr) (fun s11 _ => (L.length - lenV s11))
      case atStart => exact ⟨0, _, hk3, rfl, by simpa using HOWN6.out, HB6.out⟩
      case round =>
        obtain ⟨j, vr, hj, rfl, hown, hbel⟩ := hrel
        obtain ⟨ma, mc, rfl⟩ := ownsForm hown
        have HOWN := Lib.hid hown
        have HBR := Lib.hid hbel
        have hsr := hbel.size
        clear hown hbel
        by_cases hlt : k2 + j < L.length
        · have hlt' : ((k2 + j : Nat) : Int) < (L.length : Int) := by omega
          go_wp2_with (at_builtin; refine wpList_append_lies _ rfl (.tmp 51) (.tmp 52) 26 rfl w5.heap.size 2 i1 (.int .i64 0) 1 8 Try.underlying26 hi' hz0' hz1' hz2' rfl (by decide) _ _ _ rfl (HOWN.out.alloc _) ⟨_, 0, none⟩ 1 1 [.int .i64 0] rfl rfl ?oc7 (by simp [Value.oneCell']) (by decide) ?od7 ?oe7 ?of7 _ rfl ?_)
          case oc7 =>
            intro q u h
            match q, h with
            | 0, h => cases h; rw [Addr.add_lit]; simp [go_sem]
          case od7 => unfold maxLen; omega
          case oe7 => omega
          case of7 => simp; omega
          intro g7 cap7 w7 hown7 hg7 hat7 hlt7
          have hb7 : Below w5.heap.size w5 w7 := ((HBR.out.alloc hsr _)).grown hg7 (by simp; omega) fun q hq => (HOWN.out.lt q hq).1
          have HOWN7 := Lib.hid hown7
          have HB7 := Lib.hid hb7
          clear hown7 hg7 hat7 hlt7 hb7
          go_wp2_with fail
          go_roundw
          case rel =>
            refine ⟨j + 1, _, by omega, rfl, ?_, HB7.out⟩
            rw [List.replicate_succ']
            exact HOWN7.out
          case measure => simp [lenV]; omega
        · have hlt' : ¬ ((k2 + j : Nat) : Int) < (L.length : Int) := by omega
          have he : k2 + j = L.length := by omega
          have HE := Lib.hid he
          clear he
          have hb5 := HB5.out
          have hbr := HBR.out
          replace HOS := Lib.hid ((HOS.out.next hb5).next hbr)
          have P0 := Lib.hid (cell_next hb5 p0)
          have P1 := Lib.hid (cell_next hb5 p1)
          have P2 := Lib.hid (cell_next hb5 p2)
          have P3 := Lib.hid (cell_next hb5 p3)
          replace p0 := cell_next hbr P0.out
          replace p1 := cell_next hbr P1.out
          replace p2 := cell_next hbr P2.out
          replace p3 := cell_next hbr P3.out
          replace HKX := Lib.hid (HKX.out.next hb5)
          replace HB := Lib.hid (HB.out.trans (hb5.mono HB.out.size))
          clear hbr hb5
          obtain ⟨zs, hzs⟩ : ∃ zs, Hid (List.replicate j (0 : Int) = zs) := ⟨_, Lib.hid rfl⟩
          have hzm : List.replicate j (Value.int .i64 0) = zs.map (Value.int .i64) := by rw [← hzs.out, List.map_replicate]
          rw [hzm] at HOWN
          have hzl : zs.length = j := by rw [← hzs.out, List.length_replicate]
          have hz0s : ∀ z ∈ zs, z = 0 := by rw [← hzs.out]; exact fun z hz => (List.mem_replicate.1 hz).2
          have hvl : (vs ++ zs).length = L.length := by rw [List.length_append, hzl]; have := VK.out; have := HE.out; omega
          have HLAW : Hid (∀ os', (if mayE 20 x then evalE 20 x (L ++ [sOther, sX9]) (vs ++ zs ++ os') else (0, false)) = (r1, r2)) := Lib.hid fun os' => (names_law hmx.out hL.out hvl hz0s).trans hR.out
          have HIN : Hid (∀ z ∈ vs ++ zs, InI z) := Lib.hid fun z hz => by
            rcases List.mem_append.1 hz with hz | hz
            · exact VALL.out z hz
            · rw [hz0s z hz]; exact InI_zero
          have HVL := Lib.hid hvl
          have HNS := Lib.hid (HNM5.out.strs (by simp; omega))
          clear hzm hzl hz0s hvl
          have zl := cell_lt p0
          have zn := World.new_ne _ _ p0
          go_upto_region 14 with fail
          by_cases h9 : os.length ≤ 9
          · have hk3b : os.length ≤ os.length := by omega
            have hoi : (os.length : Int) ≤ 9 := by omega
            have hoj : ((9 : Int) < (os.length : Int)) = False := eq_false (by omega)
            have hok1 : (0 : Int) ≤ (os.length : Int) := by omega
            have hok2 : (os.length : Int) ≤ (oc : Int) := by omega
            have hos3 := HOS.out.take os.length hk3b
            have hok : (os.take os.length).length = os.length := by rw [List.length_take]; omega
            obtain ⟨-, oz, onew⟩ := hos3.news
            have OZ := Lib.hid oz
            have ONEW := Lib.hid onew
            have OALL := Lib.hid hos3.all
            have OK := Lib.hid hok
            have hol : ((os.take os.length).map (Value.int .i64)).length = os.length * 1 := by rw [List.length_map, Nat.mul_one, hok]
            have OL := Lib.hid hol
            clear hos3 hok oz onew hol
            go_region_law
              (first
                | (refine step_append_sl _ (by rfl) (.tmp 57) (.tmp 62) _ (by rfl) w5.heap.size 2 i1 (.int .i64 0) 1 8 Try.underlying26 hi' hz0' hz1' hz2' rfl (by omega) (.slice ma (k2 + j) mc) (k2 + j) (vs.map (Value.int .i64) ++ zs.map (Value.int .i64)) (by rfl) HOWN.out oa (os.length) oc ((os.take (os.length)).map (Value.int .i64)) (by rfl) OZ.out OL.out ONEW.out (int_all _) ?_ ?_ ?_ ?_
                   · unfold maxLen; omega
                   · omega
                   · simp; omega
                   intro va8 vc8 w8 hown8 hg8 hat8
                   have hb8 : Below w5.heap.size w5 w8 := HBR.out.drew.grown hg8 hsr fun q hq => (HOWN.out.lt q hq).1
                   have HINT : Hid (IntsAt w8 (.slice va8 (k2 + j + os.length) vc8) (vs ++ zs ++ os.take (os.length))) := by
                     refine Lib.hid (ints_owned (B := w5.heap.size) (n := k2 + j + os.length) (by rw [List.map_append, List.map_append]; exact hown8) ?_ ?_ ?_)
                     · rw [List.length_append, HVL.out, OK.out, HE.out]
                     · omega
                     · intro t ht
                       rcases List.mem_append.1 ht with ht | ht
                       · exact HIN.out t ht
                       · exact OALL.out t ht
                   have z0 := cell_next hb8 P0.out
                   have z1 := cell_next hb8 P1.out
                   have z2 := cell_next hb8 P2.out
                   have z3 := cell_next hb8 P3.out)
                | (go_simp
                   go_at_call 20
                   refine (evalOf_any dx x _ _ _ _ _ _ HOX.out (HKX.out.next hb8) (HNS.out.next hb8) HINT.out).mono ?_
                   rintro e w9' ⟨rfl, -, hb9'⟩
                   rw [HLAW.out]
                   have hb9 := hb8.trans (hb9'.mono hb8.size)
                   dsimp only))
            all_goals
              have hb10 := HB.out.trans (hb9.mono HB.out.size)
              have HB10 := Lib.hid hb10
              clear hb8 hb9 hb9' hb10 hown8 hg8 hat8 HINT z0 z1 z2 z3 p0 p1 p2 p3 P0 P1 P2 P3
              go_wp2_with fail
              go_ret
              exact ⟨rfl, HB10.out⟩
          · have hk3b : 9 ≤ os.length := by omega
            have hoi : ¬ (os.length : Int) ≤ 9 := by omega
            have hoj : ((9 : Int) < (os.length : Int)) = True := eq_true (by omega)
            have hok1 : (0 : Int) ≤ (9 : Int) := by omega
            have hok2 : (9 : Int) ≤ (oc : Int) := by omega
            have hos3 := HOS.out.take 9 hk3b
            have hok : (os.take 9).length = 9 := by rw [List.length_take]; omega
            obtain ⟨-, oz, onew⟩ := hos3.news
            have OZ := Lib.hid oz
            have ONEW := Lib.hid onew
            have OALL := Lib.hid hos3.all
            have OK := Lib.hid hok
            have hol : ((os.take 9).map (Value.int .i64)).length = 9 * 1 := by rw [List.length_map, Nat.mul_one, hok]
            have OL := Lib.hid hol
            clear hos3 hok oz onew hol
            go_region_law
              (first
                | (refine step_append_sl _ (by rfl) (.tmp 57) (.tmp 62) _ (by rfl) w5.heap.size 2 i1 (.int .i64 0) 1 8 Try.underlying26 hi' hz0' hz1' hz2' rfl (by omega) (.slice ma (k2 + j) mc) (k2 + j) (vs.map (Value.int .i64) ++ zs.map (Value.int .i64)) (by rfl) HOWN.out oa (9) oc ((os.take (9)).map (Value.int .i64)) (by rfl) OZ.out OL.out ONEW.out (int_all _) ?_ ?_ ?_ ?_
                   · unfold maxLen; omega
                   · omega
                   · simp; omega
                   intro va8 vc8 w8 hown8 hg8 hat8
                   have hb8 : Below w5.heap.size w5 w8 := HBR.out.drew.grown hg8 hsr fun q hq => (HOWN.out.lt q hq).1
                   have HINT : Hid (IntsAt w8 (.slice va8 (k2 + j + 9) vc8) (vs ++ zs ++ os.take (9))) := by
                     refine Lib.hid (ints_owned (B := w5.heap.size) (n := k2 + j + 9) (by rw [List.map_append, List.map_append]; exact hown8) ?_ ?_ ?_)
                     · rw [List.length_append, HVL.out, OK.out, HE.out]
                     · omega
                     · intro t ht
                       rcases List.mem_append.1 ht with ht | ht
                       · exact HIN.out t ht
                       · exact OALL.out t ht
                   have z0 := cell_next hb8 P0.out
                   have z1 := cell_next hb8 P1.out
                   have z2 := cell_next hb8 P2.out
                   have z3 := cell_next hb8 P3.out)
                | (go_simp
                   go_at_call 20
                   refine (evalOf_any dx x _ _ _ _ _ _ HOX.out (HKX.out.next hb8) (HNS.out.next hb8) HINT.out).mono ?_
                   rintro e w9' ⟨rfl, -, hb9'⟩
                   rw [HLAW.out]
                   have hb9 := hb8.trans (hb9'.mono hb8.size)
                   dsimp only))
            all_goals
              have hb10 := HB.out.trans (hb9.mono HB.out.size)
              have HB10 := Lib.hid hb10
              clear hb8 hb9 hb9' hb10 hown8 hg8 hat8 HINT z0 z1 z2 z3 p0 p1 p2 p3 P0 P1 P2 P3
              go_wp2_with fail
              go_ret
              exact ⟨rfl, HB10.out⟩
end Go.Proofs.Ytnbclbphggmenaa.Tr
