/- TallyKinds, walked: the votes. -/
import Derived.Test.YtghbgcmhahndkaaKindsP
import Derived.IntWalk
import Derived.Deep.DeepCutAuto
import Derived.Deep.CutBlock
import Derived.StillTailTactics
import Derived.RangeFuncLeaves
import Derived.RangeFuncNested
import Derived.Handy
namespace Go.Proofs.Ytghbgcmhahndkaa
open Go.RowKit Go.Maps Go.Proofs.YtghbgcmhahndkaaW.PrintLast
set_option linter.unusedVariables false
attribute [local go_sem] Oper.semAt_some

theorem results_k (tmps : Array Value) (w : World) (k : Nat) (b : Bool) (hp : tmps.getD 4 undef = .pointer (some ⟨k, 0, Option.none⟩)) (hc : w.cell? ⟨k, 0, Option.none⟩ = some (.bool b)) :
    (results Try.f7 tmps).run Try.prog w = .ok (.bool b) w := by
  have hp' : tmps[4]?.getD undef = .pointer (some ⟨k, 0, Option.none⟩) := by simpa using hp
  simp [results, Try.results7, go_sem, hp', hc, asAddr]
theorem infoLI : (Try.prog.info? 27).map (fun i => (i.zero, i.size, i.bytes)) = some (some (.slice Option.none 0 0), 1, 24) := by kernel_rfl

set_option maxRecDepth 100000 in
set_option maxHeartbeats 8000000 in
theorem kinds_any (A : Option Addr) (n cap : Nat) (l : List Int) (V : Option Addr) (m cap' : Nat) (vs : List Vo) (w : World) (hA : Nums .i64 w A l) (hn : l.length = n) (hwf : ∀ s ∈ l, (Lit.int .i64 s).wf = true) (hr : n ≤ 1048576) (hV : Vs w V vs) (hm : vs.length = m) (hfine : ∀ x ∈ vs, x.Fine) (hm2 : m ≤ 1048576) :
    Calls Try.prog 7 #[.slice A n cap, .slice V m cap'] w fun e w' => e = .returned (.bool true) ∧ Keeps None w w' := by
  subst hm
  subst hn
  have hnd := uniqF_nd l
  have hul := uniqF_len l
  have hum := uniqF_mem l
  have huw : ∀ s ∈ uniqF l, (Lit.int .i64 s).wf = true := fun s hs => hwf s ((hum s).1 hs)
  have hw1 : IntKind.i64.wrap ((l.length : Int) + 1) = (l.length : Int) + 1 := IntWalk.i64_in _ (by omega)
  obtain ⟨bR, hbR⟩ : ∃ b, b = w.heap.size := ⟨_, rfl⟩
  obtain ⟨W0, hW0⟩ : ∃ W, W = w.alloc (.cells #[.bool false] 4) := ⟨_, rfl⟩
  have k0 : Keeps None w W0 := by rw [hW0]; exact (Keeps.refl _ _).alloc _
  have hR0 : Blk W0 bR 4 [.bool false] := by rw [hW0, hbR]; exact Blk.new _ _ _
  refine (callsIn_wide (n := 8)).1 ?_
  refine callsIn_of_wp_marks Try.func7 rfl trivial ?_ rfl
  simp only [Try.ntmps7, List.size_toArray, List.length_cons, List.length_nil, Nat.reduceAdd, Nat.reduceSub, Array.replicate_succ, Array.replicate_zero, List.push_toArray, List.append_toArray, List.nil_append, List.cons_append]
  refine wpIn_wide.2 ?_
  go_upto_region 1 with (fail)
  rw [← hW0, ← hbR]
  have hbRw : w.heap.size ≤ bR := by omega
  clear hW0 hbR
  go_wp2_with fail
  refine (known_any W0).mono ?_
  rintro e w1 ⟨rfl, hk1⟩
  have k01 := k0.trans hk1
  have hR1 := hR0.grew hk1
  have hs01 := k01.size
  have hbR1 : bR < w1.heap.size := hR1.lt
  clear k0 hk1 hR0
  go_wp2_with fail
  refine (KS.new_any A l.length cap l ((l.length : Int) + 1) w1 (hA.grew k01) rfl (by omega)).mono ?_
  rintro e w2 ⟨vS, rfl, hTS2, hk2⟩
  obtain ⟨gS, hgS⟩ : ∃ g, g = w1.heap.size + 1 := ⟨_, rfl⟩
  obtain ⟨mS, hmS⟩ : ∃ g, g = w1.heap.size := ⟨_, rfl⟩
  rw [← hgS, ← hmS] at hTS2
  rw [← hgS]
  have hlS : mS < w2.heap.size ∧ gS < w2.heap.size ∧ (∀ b, vS.ownBlock = some b → mS ≤ b ∧ b < w2.heap.size) := ⟨hTS2.lt.2, hTS2.lt.1, fun b e => hTS2.row.lt b e⟩
  have hmg : mS < gS := by omega
  have hbRS : bR < mS := by omega
  clear hgS hmS
  obtain ⟨b5, hb5⟩ : ∃ b, b = w2.heap.size := ⟨_, rfl⟩
  obtain ⟨w3, hw3⟩ : ∃ W, W = w2.alloc (.cells #[.pointer (some ⟨gS, 0, Option.none⟩)] 49) := ⟨_, rfl⟩
  have k3 : Keeps None w2 w3 := by rw [hw3]; exact (Keeps.refl _ _).alloc _
  have hB5 : Blk w3 b5 49 [.pointer (some ⟨gS, 0, Option.none⟩)] := by rw [hw3, hb5]; exact Blk.new _ _ _
  go_upto_region 4 with (fail)
  rw [← hw3, ← hb5]
  have hTS3 := hTS2.grew k3
  have hR3 := (hR1.grew hk2).grew k3
  have k03 := (k01.trans hk2).trans k3
  have h5l : b5 < w3.heap.size := hB5.lt
  have hlS2 : mS < b5 ∧ gS < b5 ∧ (∀ b, vS.ownBlock = some b → mS ≤ b ∧ b < b5) := by rw [hb5]; exact hlS
  clear hw3 hb5 hTS2 hR1 k01 hk2 k3 hlS
  go_wp2_with fail
  refine (KP.new_any A l.length cap l ((l.length : Int) + 1) w3 (hA.grew k03) rfl (by omega)).mono ?_
  rintro e w4 ⟨vP, rfl, hTP4, hk4⟩
  obtain ⟨gP, hgP⟩ : ∃ g, g = w3.heap.size + 1 := ⟨_, rfl⟩
  obtain ⟨mP, hmP⟩ : ∃ g, g = w3.heap.size := ⟨_, rfl⟩
  rw [← hgP, ← hmP] at hTP4
  rw [← hgP]
  have hlP : mP < w4.heap.size ∧ gP < w4.heap.size ∧ (∀ b, vP.ownBlock = some b → mP ≤ b ∧ b < w4.heap.size) := ⟨hTP4.lt.2, hTP4.lt.1, fun b e => hTP4.row.lt b e⟩
  have hmgP : mP < gP := by omega
  have h5P : b5 < mP := by omega
  have hTS4 := hTS3.grew hk4
  have hB54 := hB5.grew hk4
  have hR4 := hR3.grew hk4
  have k04 := k03.trans hk4
  clear hgP hmP hTS3 hB5 hR3 k03 hk4 h5l
  go_wp2_with fail
  refine (KZ.new_any A l.length cap l ((l.length : Int) + 1) w4 (hA.grew k04) rfl (by omega)).mono ?_
  rintro e w5 ⟨vZ, rfl, hTZ5, hk5⟩
  obtain ⟨gZ, hgZ⟩ : ∃ g, g = w4.heap.size + 1 := ⟨_, rfl⟩
  obtain ⟨mZ, hmZ⟩ : ∃ g, g = w4.heap.size := ⟨_, rfl⟩
  rw [← hgZ, ← hmZ] at hTZ5
  rw [← hgZ]
  have hlZ : mZ < w5.heap.size ∧ gZ < w5.heap.size ∧ (∀ b, vZ.ownBlock = some b → mZ ≤ b ∧ b < w5.heap.size) := ⟨hTZ5.lt.2, hTZ5.lt.1, fun b e => hTZ5.row.lt b e⟩
  have hlP2 : mP < mZ ∧ gP < mZ ∧ (∀ b, vP.ownBlock = some b → mP ≤ b ∧ b < mZ) := by rw [hmZ]; exact hlP
  have hmgZ : mZ < gZ := by omega
  have hTS5 := hTS4.grew hk5
  have hTP5 := hTP4.grew hk5
  have hB55 := hB54.grew hk5
  have hR5 := hR4.grew hk5
  have k05 := k04.trans hk5
  have x5 := hB55.cell 0 _ rfl
  clear hgZ hmZ hTS4 hTP4 hB54 hR4 k04 hk5 hlP
  obtain ⟨b8, hb8⟩ : ∃ b, b = w5.heap.size := ⟨_, rfl⟩
  obtain ⟨w6, hw6⟩ : ∃ W, W = w5.alloc (.cells #[.slice Option.none 0 0] 27) := ⟨_, rfl⟩
  have k6 : Keeps None w5 w6 := by rw [hw6]; exact (Keeps.refl _ _).alloc _
  have hB8 : Blk w6 b8 27 [.slice Option.none 0 0] := by rw [hw6, hb8]; exact Blk.new _ _ _
  have e86 : w6.heap.size = w5.heap.size + 1 := by rw [hw6, World.size_alloc]
  obtain ⟨b9, hb9⟩ : ∃ b, b = w5.heap.size + 1 := ⟨_, rfl⟩
  obtain ⟨w7, hw7⟩ : ∃ W, W = w6.alloc (.cells #[.slice Option.none 0 0] 57) := ⟨_, rfl⟩
  have k7 : Keeps None w6 w7 := by rw [hw7]; exact (Keeps.refl _ _).alloc _
  have hB9 : Blk w7 b9 57 [.slice Option.none 0 0] := by rw [hw7, hb9, ← e86]; exact Blk.new _ _ _
  have e97 : w7.heap.size = w6.heap.size + 1 := by rw [hw7, World.size_alloc]
  go_upto_region 10 with (fail)
  rw [← hw6, ← hw7, ← hb9, ← hb8]
  obtain ⟨B, hB⟩ : ∃ B, B = w7.heap.size := ⟨_, rfl⟩
  have k57 := k6.trans k7
  have hLie : KLie w B bR b5 b8 b9 gS mS vS gP mP vP gZ mZ vZ := ⟨⟨hbRw, hbRS, hmg, hlS2.2.1⟩, hlS2.2.2, ⟨h5P, hmgP, hlP2.2.1⟩, hlP2.2.2, ⟨hmgZ, by omega, by omega, by omega⟩, fun b e => ⟨(hlZ.2.2 b e).1, by have := (hlZ.2.2 b e).2; omega⟩⟩
  have h5B := hLie.b.1
  have hAll0 : KAll w w7 B l bR b5 b8 b9 gS mS vS gP mP vP gZ mZ vZ [] [] [] (.slice Option.none 0 0) (.slice Option.none 0 0) :=
    ⟨hTS5.grew k57, hTP5.grew k57, hTZ5.grew k57, ⟨hB55.grew k57, hB8.grew k7, hB9, Row.nil _ _ _ _, World.ownsRow_nil _ _ _ _, (fun b hb => by simp at hb), ⟨by have := hLie.c; have := hLie.b; omega, by have := hLie.c; omega, by have := hLie.c; omega, by have := hLie.c; have := hLie.b; omega, by have := hLie.c; have := hLie.b; omega, by have := hLie.c; omega⟩⟩, rfl, rfl, (fun p hp => by cases hp), List.nodup_nil, (fun x hx => by cases hx), hR5.grew k57, k05.trans k57⟩
  have HLIE := Lib.hid hLie
  have hBw : w.heap.size ≤ B := by have := k05.size; have := k57.size; omega
  have HBW := Lib.hid hB
  clear hw6 hw7 hb8 hb9 e86 e97 hB k57 k6 k7 hTS5 hTP5 hTZ5 hB55 hB8 hB9 hR5 k05 x5 hlS2 hlP2 hlZ hmg hmgP hmgZ hbRS h5P hLie hbRw hs01 hbR1
  obtain ⟨i0, hi, hz0, hz1, hz2⟩ := info_parts KP.infoI
  obtain ⟨iL, hiL, hy0, hy1, hy2⟩ := info_parts infoLI
  go_wp2_with fail
  go_loopw [10] (fun i wr => ∃ (k : Nat) (ws : List Int) (bs : List Nat) (gotS : List (Int × Value)) (who lsv : Value), k ≤ vs.length ∧ i = .int .i64 k ∧ KAll w wr B l bR b5 b8 b9 gS mS vS gP mP vP gZ mZ vZ ws bs gotS who lsv ∧ B ≤ wr.heap.size) (fun i _ => vs.length - (intOf i).toNat)
  case atStart => exact ⟨0, [], [], [], _, _, Nat.zero_le _, rfl, hAll0, by rw [HBW.out]; exact Nat.le_refl _⟩
  case round =>
    clear hAll0
    obtain ⟨k, ws, bs, gotS, who, lsv, hk, rfl, hK, hBr⟩ := hrel
    have hsh := hK.short
    by_cases hlt : k < vs.length
    · obtain ⟨⟨s, x, lk⟩, hx⟩ : ∃ p, vs[k]? = some p := ⟨_, List.getElem?_eq_getElem hlt⟩
      obtain ⟨hws, hwx⟩ := hfine _ (List.mem_of_getElem? hx)
      obtain ⟨vb, vo, rfl, v0, v1, v2⟩ := (hV.grew hK.keeps) k _ hx
      have HX := Lib.hid hx
      clear hx
      obtain ⟨bv, hbv⟩ : ∃ b, b = wr.heap.size := ⟨_, rfl⟩
      obtain ⟨wv, hwv⟩ : ∃ W, W = wr.alloc (.cells #[.int .i64 s, .int .i64 x, .bool lk] 37) := ⟨_, rfl⟩
      have kv : Keeps None wr wv := by rw [hwv]; exact (Keeps.refl _ _).alloc _
      have hBv : Blk wv bv 37 [.int .i64 s, .int .i64 x, .bool lk] := by rw [hwv, hbv]; exact Blk.new _ _ _
      go_upto_region 14 with (fail)
      rw [← hwv, ← hbv]
      have hBv2 : B ≤ bv := by omega
      have hbvr : wr.heap.size ≤ bv := by omega
      have hKv := hK.grew kv
      have hAv := hA.grew hKv.keeps
      obtain ⟨Aw, cw, rfl⟩ := hKv.side.row.slice
      have a0 := hBv.cell 0 _ rfl
      have c8 := hKv.side.c8.cell 0 _ rfl
      have hszv := kv.size
      clear hwv hbv hK kv v0 v1 v2
      go_wp2_with fail
      refine (stands_any A l.length cap l s wv hAv rfl (by omega)).mono ?_
      rintro e wa ⟨hda, rfl⟩
      have hKa := hKv.grew (hda.keeps None)
      have hBa := hBv.grew (hda.keeps None)
      have hsza := (hda.keeps None).size
      have c8 := hKa.side.c8.cell 0 _ rfl
      have a0 := hBa.cell 0 _ rfl
      clear hda hKv hBv hAv
      by_cases hin : s ∈ l
      case' pos =>
        rw [decide_eq_true hin]
        go_wp2_with fail
        refine (stands_any Aw ws.length cw ws s wa (Nums.row hKa.side.row).1 rfl (by omega)).mono ?_
        rintro e wb ⟨hdb, rfl⟩
        have hKb := hKa.grew (hdb.keeps None)
        have hBb := hBa.grew (hdb.keeps None)
        have hszb := (hdb.keeps None).size
        clear hdb c8 a0 hKa hBa
        rcases Classical.em (s ∈ ws) with hin2 | hin2
        case' inl =>
          rw [decide_eq_true hin2]
          go_upto_region 15 with (fail)
          obtain ⟨fr, hfr⟩ : ∃ fr, fr = freshK l ws s := ⟨_, rfl⟩
          have hff : fr = false := by rw [hfr]; simp [freshK, hin2]
          obtain ⟨wq, hwq⟩ : ∃ W, W = wb := ⟨_, rfl⟩
          have hKq := hKb
          have hBq := hBb
          rw [← hwq] at hKq hBq ⊢
          have hqs : wr.heap.size < wq.heap.size := by rw [hwq]; have := hBb.lt; omega
          clear hwq hKb hBb
        case' inr =>
          rw [decide_eq_false hin2]
          go_upto_region 15 with (fail)
          obtain ⟨fr, hfr⟩ : ∃ fr, fr = freshK l ws s := ⟨_, rfl⟩
          have hff : fr = true := by rw [hfr]; simp [freshK, hin2, hin]
          obtain ⟨wq, hwq⟩ : ∃ W, W = wb := ⟨_, rfl⟩
          have hKq := hKb
          have hBq := hBb
          rw [← hwq] at hKq hBq ⊢
          have hqs : wr.heap.size < wq.heap.size := by rw [hwq]; have := hBb.lt; omega
          clear hwq hKb hBb
      case' neg =>
        rw [decide_eq_false hin]
        go_upto_region 15 with (fail)
        obtain ⟨fr, hfr⟩ : ∃ fr, fr = freshK l ws s := ⟨_, rfl⟩
        have hff : fr = false := by rw [hfr]; simp [freshK, hin]
        obtain ⟨wq, hwq⟩ : ∃ W, W = wa := ⟨_, rfl⟩
        have hKq := hKa
        have hBq := hBa
        rw [← hwq] at hKq hBq ⊢
        have hqs : wr.heap.size < wq.heap.size := by rw [hwq]; have := hBa.lt; omega
        clear hwq c8 a0 hKa hBa
      all_goals
        have HFR := Lib.hid hfr
        have HFF := Lib.hid hff
        clear hfr hff
        have a0 := hBq.cell 0 _ rfl
        have a1 := hBq.cell 1 _ rfl
        obtain ⟨bl, hbl⟩ : ∃ b, b = wq.heap.size := ⟨_, rfl⟩
        obtain ⟨wl, hwl⟩ : ∃ W, W = wq.alloc (.cells #[.int .i64 x, .int .i64 (k : Int)] 3) := ⟨_, rfl⟩
        have kl : Keeps None wq wl := by rw [hwl]; exact (Keeps.refl _ _).alloc _
        have hBl : Blk wl bl 3 [.int .i64 x, .int .i64 (k : Int)] := by rw [hwl, hbl]; exact Blk.new _ _ _
        go_upto_region 16 with (fail)
        rw [← hwl, ← hbl]
        have hKl := hKq.grew kl
        have hBvl := hBq.grew kl
        have hblw : ¬ (Value.slice Aw ws.length cw).ownBlock = some bl := fun e => by have := (hKq.side.row.lt bl e).2; omega
        have hBbl : B ≤ bl := by omega
        have a0 := hBvl.cell 0 _ rfl
        have a1 := hBvl.cell 1 _ rfl
        have c5 := hKl.side.c5.cell 0 _ rfl
        clear hwl hbl hKq hBq kl
        go_wp2_with fail
      all_goals
        have hone := letter x
        obtain ⟨cb, hcb⟩ : ∃ c, c = Utf8.encode (wrap32 (bits BinOp.and IntKind.i64 x 127)) := ⟨_, rfl⟩
        rw [← hcb] at hone ⊢
        have HONE := Lib.hid hone
        have hnS := hKl.need
        have hgl : gotS.length = ws.length := by rw [← hKl.keys, List.length_map]
        have hsub' : ∀ y ∈ ws, y ∈ uniqF l := fun y hy => (hum y).2 (hKl.sub y hy)
        have hbS := tookB_keys (need := (l.length : Int) + 1) hKl.keys (by omega) hKl.nd hsub' s
        have hbP := tookB_keys (need := (l.length : Int) + 1) (gotPK_keys hKl.len) (by omega) hKl.nd hsub' s
        have hbZ := tookB_keys (need := (l.length : Int) + 1) (gotZK_keys ws gS) (by omega) hKl.nd hsub' s
        have HK := Lib.hid hKl
        clear hcb hone
        refine (KS.take_any gS mS vS (uniqF l) _ mS gotS s cb wl hKl.tS hws (by omega) (by omega)).mono ?_
        rintro e wS ⟨rfl, hTS, hkS⟩
        rw [hbS]
        have hBvS := hBvl.keeps hkS (fun e => by have := HLIE.out.a; have := HLIE.out.b; have := HLIE.out.c; simp only [One] at e; omega)
        have hTP1 := hKl.tP.keeps hkS (fun e => by have := HLIE.out.a; have := HLIE.out.b; simp only [One] at e; omega) (fun e => by have := HLIE.out.a; have := HLIE.out.b; simp only [One] at e; omega) (fun b e f => by have := HLIE.out.p b e; have := HLIE.out.a; have := HLIE.out.b; simp only [One] at f; omega)
        have a0 := hBvS.cell 0 _ rfl
        go_wp2_with fail
        refine (KP.take_any gP mP vP (uniqF l) _ mP (gotPK ws bs) s ⟨#[112]⟩ (some ⟨bl, 0, Option.none⟩) 2 2 wS hTP1 hws (by omega) (by have := gotPK_keys HK.out.len; have : (gotPK ws bs).length = ws.length := by { rw [← List.length_map (f := fun x : Int × Value => x.1), this] }; omega)).mono ?_
        rintro e wP ⟨rfl, hTP, hkP⟩
        rw [hbP]
        have hBvP := hBvS.keeps hkP (fun e => by have := HLIE.out.a; have := HLIE.out.b; have := HLIE.out.c; simp only [One] at e; omega)
        have hTZ1 := (hKl.tZ.keeps hkS (fun e => by have := HLIE.out.a; have := HLIE.out.b; have := HLIE.out.c; simp only [One] at e; omega) (fun e => by have := HLIE.out.a; have := HLIE.out.b; simp only [One] at e; omega) (fun b e f => by have := HLIE.out.z b e; have := HLIE.out.a; have := HLIE.out.b; simp only [One] at f; omega)).keeps hkP (fun e => by have := HLIE.out.b; have := HLIE.out.c; simp only [One] at e; omega) (fun e => by have := HLIE.out.b; have := HLIE.out.c; simp only [One] at e; omega) (fun b e f => by have := HLIE.out.z b e; have := HLIE.out.b; simp only [One] at f; omega)
        have hTS1 := hTS.keeps hkP (fun e => by have := HLIE.out.a; have := HLIE.out.b; simp only [One] at e; omega) (fun e => by have := HLIE.out.a; have := HLIE.out.b; simp only [One] at e; omega) (fun b e f => by have := HLIE.out.s b e; have := HLIE.out.b; simp only [One] at f; omega)
        have hkSP : Keeps (fun b => b = mS ∨ b = mP ∨ b = mZ) wl wP := (hkS.mono (fun b _ e => .inl e)).trans (hkP.mono (fun b _ e => .inr (.inl e)))
        have hc5 := hKl.side.c5.keeps hkSP (fun e => by have := HLIE.out.a; have := HLIE.out.b; have := HLIE.out.c; omega)
        have c5 := hc5.cell 0 _ rfl
        have a0 := hBvP.cell 0 _ rfl
        clear hTP1 hTS hkP hkS hBvS hBvl
        go_wp2_with fail
        refine (KZ.take_any gZ mZ vZ (uniqF l) _ mZ (gotZK ws gS) s gS wP hTZ1 hws (by omega) (by have := gotZK_keys ws gS; have : (gotZK ws gS).length = ws.length := by { rw [← List.length_map (f := fun x : Int × Value => x.1), this] }; omega)).mono ?_
        rintro e wZ ⟨rfl, hTZ, hkZ⟩
        rw [hbZ]
        have hBvZ := hBvP.keeps hkZ (fun e => by have := HLIE.out.c; simp only [One] at e; omega)
        have hTS2 := hTS1.keeps hkZ (fun e => by have := HLIE.out.a; have := HLIE.out.b; simp only [One] at e; omega) (fun e => by have := HLIE.out.a; have := HLIE.out.b; simp only [One] at e; omega) (fun b e f => by have := HLIE.out.s b e; have := HLIE.out.b; simp only [One] at f; omega)
        have hTP2 := hTP.keeps hkZ (fun e => by have := HLIE.out.b; simp only [One] at e; omega) (fun e => by have := HLIE.out.b; simp only [One] at e; omega) (fun b e f => by have := HLIE.out.p b e; have := HLIE.out.b; simp only [One] at f; omega)
        have hkSZ : Keeps (fun b => b = mS ∨ b = mP ∨ b = mZ) wl wZ := hkSP.trans (hkZ.mono (fun b _ e => .inr (.inr e)))
        rw [took_keys hKl.keys hnS] at hTS2
        rw [took_keys (gotPK_keys hKl.len) hnS] at hTP2
        rw [took_keys (gotZK_keys ws gS) hnS] at hTZ
        rw [← HFR.out, HFF.out] at hTS2 hTP2 hTZ
        have hside := hKl.side.keeps hkSZ (fun b e => by have := HLIE.out.a; have := HLIE.out.b; have := HLIE.out.c; omega)
        have hres := hKl.res.keeps hkSZ (fun e => by have := HLIE.out.a; have := HLIE.out.b; have := HLIE.out.c; omega)
        have hBlZ := hBl.keeps hkSZ (fun e => by have := HLIE.out.a; have := HLIE.out.b; have := HLIE.out.c; omega)
        have hkeep : Keeps None w wZ := hKl.keeps.andThen hkSZ (fun i hi e => by have := HLIE.out.a; have := HLIE.out.b; have := HLIE.out.c; omega)
        have hszZ := hkSZ.size
        have hllt := hBl.lt
        clear hTS1 hTP hTZ1 hKl hc5 c5 a0 a1 hkZ hkSP hkSZ hBvP hBl hbS hbP hbZ
        go_upto_region 18 with (fail)
      rotate_left
      · have ht : fr = true := HFF.out
        simp only [if_true] at hTS2 hTP2 hTZ
        have c8 := hside.c8.cell 0 _ rfl
        have f8 := hside.c8.free 0
        have a0 := hBvZ.cell 0 _ rfl
        have hBZ : B ≤ wZ.heap.size := by omega
        have hwl := hside.row.lt
        have HSD := Lib.hid hside
        have kA1 : Keeps None wZ (wZ.alloc (.cells #[Value.int .i64 s] 3)) := (Keeps.refl None wZ).alloc _
        have hrow1 := hside.row.grew kA1
        have hfree : ∀ w', Blk w' b8 27 [.slice Aw ws.length cw] → w'.frozen? ⟨b8, 0, Option.none⟩ = false ∧ ∃ u, w'.cell? ⟨b8, 0, Option.none⟩ = some u := fun w' h => ⟨h.free 0, _, h.cell 0 _ rfl⟩
        have hx8 : ¬ OwnB (.slice Aw ws.length cw) b8 := fun e => by have := (hwl b8 e).1; have := hside.low; omega
        clear hside
        go_upto_region 20 with (at_builtin; refine wpList_append_row _ rfl (.tmp 102) (.tmp 105) 27 rfl B 3 i0 (.int .i64 0) 1 8 Try.underlying27 hi hz0 hz1 hz2 rfl (by decide) _ ws.length _ rfl hrow1.raw (some ⟨wZ.heap.size, 0, Option.none⟩) 1 1 [Value.int .i64 s] rfl rfl (fun e => by cases e) (src_new wZ 3 _ _ rfl) (ints_oneCell _ [s]) (by unfold maxLen; omega) (by omega) (by simp; omega) ?_; intro v' wA hown hkA hloc; have hr1 : Row .i64 3 wA B v' (ws ++ [s]) := Row.of_append rfl rfl hown; obtain ⟨hf8, q8, hq8⟩ := hfree _ ((HSD.out.c8.grew kA1).keeps hkA hx8); obtain ⟨A', c', ev⟩ := hr1.slice; obtain rfl : v' = .slice A' (ws.length + 1) c' := ev.trans (by simp); clear hown ev)
        obtain ⟨wB, hwB⟩ : ∃ W, W = wA.setCell ⟨b8, 0, Option.none⟩ (.slice A' (ws.length + 1) c') := ⟨_, rfl⟩
        have hside1 := HSD.out.pushWho kA1 hBZ hr1 hkA hloc
        have hkAw : Keeps (fun b => b = b8 ∨ B ≤ b) wZ (wA.setCell ⟨b8, 0, Option.none⟩ (.slice A' (ws.length + 1) c')) := ((kA1.of_none.andThen hkA (fun i _ e => .inr (hwl i e).1))).setCell _ _ (fun _ => .inl rfl)
        have hblB : Blk (wA.setCell ⟨b8, 0, Option.none⟩ (.slice A' (ws.length + 1) c')) bl 3 [.int .i64 x, .int .i64 (k : Int)] := ((hBlZ.grew kA1).keeps hkA (fun e => hblw e)).keeps (S := One b8) ((Keeps.refl _ _).setCell _ _ (fun _ => rfl)) (fun e => by have := HLIE.out.c; simp only [One] at e; omega)
        rw [← hwB] at hside1 hkAw hblB ⊢
        have hszA := hkAw.size
        have hvn : (Value.slice A' (ws.length + 1) c').ownBlock ≠ some bl := fun e => by
          rcases hloc with q | q
          · exact hblw (show (Value.slice Aw ws.length cw).ownBlock = some bl from q.symm.trans e)
          · rw [e] at q; cases q; have := kA1.size; omega
        obtain ⟨Al, cl, rfl⟩ := KP.owns_slice hside1.ls
        have c9 := hside1.c9.cell 0 _ rfl
        have f9 := hside1.c9.free 0
        have hll := World.ownsRow.lt hside1.ls
        have HS1 := Lib.hid hside1
        have kB1 : Keeps None wB (wB.alloc (.cells #[Value.slice (some ⟨bl, 0, Option.none⟩) 2 2] 27)) := (Keeps.refl None wB).alloc _
        have hls1 := owns_grew hside1.ls kB1
        have hbl2 : bs.length = ws.length := HK.out.len
        have hfree9 : ∀ w', Blk w' b9 57 [.slice Al bs.length cl] → w'.frozen? ⟨b9, 0, Option.none⟩ = false ∧ ∃ u, w'.cell? ⟨b9, 0, Option.none⟩ = some u := fun w' h => ⟨h.free 0, _, h.cell 0 _ rfl⟩
        have hx9 : ¬ OwnB (.slice Al bs.length cl) b9 := fun e => by have := (hll b9 e).1; have := hside1.low; omega
        have hBL := Lib.hid hbl2
        have hbs2 : bs.length ≤ 1048576 := by omega
        clear hside1 hwB hq8 hf8 hr1 hkA hloc hrow1 c8 f8 hfree hbl2
        go_wp2_with (at_builtin; refine wpList_append_row _ rfl (.tmp 107) (.tmp 109) 57 rfl B 27 iL (.slice Option.none 0 0) 1 24 Try.underlying57 hiL hy0 hy1 hy2 rfl (by decide) _ bs.length _ rfl hls1 (some ⟨wB.heap.size, 0, Option.none⟩) 1 1 [Value.slice (some ⟨bl, 0, Option.none⟩) 2 2] rfl rfl (fun e => by cases e) (src_new wB 27 _ _ rfl) (by intro u hu; simp at hu; subst hu; rfl) (by unfold maxLen; omega) (by omega) (by simp; omega) ?_; intro v2 wC hownC hkC hlocC; obtain ⟨hf9, q9, hq9⟩ := hfree9 _ ((HS1.out.c9.grew kB1).keeps hkC hx9); obtain ⟨A2, c2, rfl⟩ := KP.owns_slice hownC)
        have hside2 := HS1.out.pushLs kB1 hblB hBbl hvn hownC hkC
        have hkCw : Keeps (fun b => b = b9 ∨ B ≤ b) wB (wC.setCell ⟨b9, 0, Option.none⟩ (.slice A2 (bs.length + 1) c2)) := ((kB1.of_none.andThen hkC (fun i _ e => .inr (hll i e).1))).setCell _ _ (fun _ => .inl rfl)
        have hkT : Keeps (fun b => b = b8 ∨ b = b9 ∨ B ≤ b) wZ (wC.setCell ⟨b9, 0, Option.none⟩ (.slice A2 (bs.length + 1) c2)) := (hkAw.mono (fun b _ f => f.elim .inl (fun f => .inr (.inr f)))).trans (hkCw.mono (fun b _ f => .inr f))
        have hszT := hkT.size
        go_roundw
        case rel => exact ⟨k + 1, ws ++ [s], bs ++ [bl], gotS ++ [(s, .string cb)], _, _, by omega, by go_num, ⟨hTS2.keeps hkT (fun e => by have := HLIE.out.a; have := HLIE.out.b; have := HLIE.out.c; omega) (fun e => by have := HLIE.out.a; have := HLIE.out.b; have := HLIE.out.c; omega) (fun b e f => by have := HLIE.out.s b e; have := HLIE.out.b; have := HLIE.out.c; omega),
          by rw [gotPK_snoc HK.out.len]; exact hTP2.keeps hkT (fun e => by have := HLIE.out.b; have := HLIE.out.c; omega) (fun e => by have := HLIE.out.b; have := HLIE.out.c; omega) (fun b e f => by have := HLIE.out.p b e; have := HLIE.out.c; omega),
          by rw [gotZK_snoc]; exact hTZ.keeps hkT (fun e => by have := HLIE.out.c; omega) (fun e => by have := HLIE.out.c; omega) (fun b e f => by have := HLIE.out.z b e; have := HLIE.out.c; omega),
          hside2, by rw [List.map_append, HK.out.keys]; rfl, by rw [List.length_append, List.length_append, hBL.out]; rfl, (fun p hp => by
            rcases List.mem_append.1 hp with hp | hp
            · exact HK.out.one p hp
            · obtain rfl := List.mem_singleton.1 hp; exact ⟨cb, rfl, HONE.out⟩),
          List.nodup_append.2 ⟨HK.out.nd, by simp, fun a ha b hb => by simp at hb; subst hb; exact fun e => hin2 (e ▸ ha)⟩,
          (fun y hy => by rcases List.mem_append.1 hy with h | h; exact HK.out.sub y h; obtain rfl := List.mem_singleton.1 h; exact hin),
          hres.keeps hkT (fun e => by have := HLIE.out.a; have := HLIE.out.b; have := HLIE.out.c; omega), hkeep.andThen hkT (fun i hi e => by have := HLIE.out.a; have := HLIE.out.b; have := HLIE.out.c; omega)⟩, by omega⟩
        case measure => simp [intOf]; omega
      all_goals
        have ht : fr = false := HFF.out
        simp only [Bool.false_eq_true, if_false] at hTS2 hTP2 hTZ
        go_wp2_with fail
        go_roundw
        case rel => exact ⟨k + 1, ws, bs, gotS, _, lsv, by omega, by go_num, ⟨hTS2, hTP2, hTZ, hside, HK.out.keys, HK.out.len, HK.out.one, HK.out.nd, HK.out.sub, hres, hkeep⟩, by omega⟩
        case measure => simp [intOf]; omega
    · have hkm : k = vs.length := by omega
      have hnS := hK.need
      have hkk := hK.keeps
      obtain ⟨Aw, cw, rfl⟩ := hK.side.row.slice
      obtain ⟨Al, cl, rfl⟩ := KP.owns_slice hK.side.ls
      have HK := Lib.hid hK
      go_wp2_with fail
      refine (KP.gotseq_any gP mP vP (uniqF l) _ mP (gotPK ws bs) wr hK.tP huw (by omega)).mono ?_
      rintro e wa ⟨rfl, ⟨p1, p2, bP, h2P, hbP⟩, hka⟩
      have hKa := hK.grew hka
      have c5 := hKa.side.c5.cell 0 _ rfl
      have hq1 := eq_nilP
      have hsa := hka.size
      have HPLT := Lib.hid (show (∀ b, p1.ownBlock = some b → b < wa.heap.size) ∧ (∀ b, p2.ownBlock = some b → b < wa.heap.size) ∧ wr.heap.size + 1 < wa.heap.size from ⟨fun b e => (h2P.row1.lt b e).2, fun b e => (h2P.row2.lt b e).2, h2P.blk2.lt⟩)
      clear hK
      go_wp2_with fail
      refine (KS.gotseq_any gS mS vS (uniqF l) _ mS gotS wa hKa.tS huw (by omega)).mono ?_
      rintro e wb ⟨rfl, ⟨s1, s2, bS, h2S, hbS⟩, hkb⟩
      have hKb := hKa.grew hkb
      have h2Pb := h2P.grew hkb
      have hsb := hkb.size
      have HSLT := Lib.hid (show (∀ b, s1.ownBlock = some b → b < wb.heap.size) ∧ (∀ b, s2.ownBlock = some b → b < wb.heap.size) ∧ wa.heap.size + 1 < wb.heap.size from ⟨fun b e => (h2S.row1.lt b e).2, fun b e => (h2S.row2.lt b e).2, h2S.blk2.lt⟩)
      clear hKa c5 h2P
      go_wp2_with fail
      refine (KZ.gotseq_any gZ mZ vZ (uniqF l) _ mZ (gotZK ws gS) wb hKb.tZ huw (by omega)).mono ?_
      rintro e wc ⟨rfl, ⟨z1, z2, bZ, h2Z, hbZ⟩, hkc⟩
      have hKc := hKb.grew hkc
      have h2Pc := h2Pb.grew hkc
      have h2Sc := h2S.grew hkc
      have hsc := hkc.size
      clear hKb h2Pb h2S hka hkb hkc
      have hqS := eq_nilS
      have hqZ := eq_nilZ
      obtain ⟨bN, hbN⟩ : ∃ b, b = wc.heap.size := ⟨_, rfl⟩
      obtain ⟨wN, hwN⟩ : ∃ W, W = wc.alloc (.cells #[.int .i64 0] 3) := ⟨_, rfl⟩
      have kN : Keeps None wc wN := by rw [hwN]; exact (Keeps.refl _ _).alloc _
      have hBN : Blk wN bN 3 [.int .i64 0] := by rw [hwN, hbN]; exact Blk.new _ _ _
      go_upto_region 27 with (fail)
      rw [← hwN, ← hbN]
      have hNw1 : wN.heap.size ≤ bN + 1 := by rw [hwN, World.size_alloc, hbN]; exact Nat.le_refl _
      have hNw2 : bN < wN.heap.size := hBN.lt
      have hSt1 := h2Pc.grew kN
      have hSt2 := h2Sc.grew kN
      have hSt3 := h2Z.grew kN
      have hKN := hKc.grew kN
      have hsideN := hKN.side
      have hresN := hKN.res
      have hkN := hKN.keeps
      have hwr : B ≤ wr.heap.size := hBr
      have hblw : ∀ b ∈ bs, b < wr.heap.size := fun b hb => by obtain ⟨-, ⟨x, y, h2⟩, -⟩ := HK.out.side.bl b hb; exact h2.lt
      have hbPl : bP.length = (TG.hasF (uniqF l) (gotPK ws bs)).length := by rw [← TG.ansF_len, ← hbP, List.length_map]
      have hbSl : bS.length = (TG.hasF (uniqF l) gotS).length := by rw [← TG.ansF_len, ← hbS, List.length_map]
      have hbZl : bZ.length = (TG.hasF (uniqF l) (gotZK ws gS)).length := by rw [← TG.ansF_len, ← hbZ, List.length_map]
      have hsubU : ∀ y ∈ ws, y ∈ uniqF l := fun y hy => (hum y).2 (HK.out.sub y hy)
      have hcP := hasF_keys (gotPK_keys HK.out.len) hnd HK.out.nd hsubU
      have hcS := hasF_keys HK.out.keys hnd HK.out.nd hsubU
      have hcZ := hasF_keys (gotZK_keys ws gS) hnd HK.out.nd hsubU
      have hNwc : wc.heap.size ≤ bN := by omega
      have hp1 := hSt1.row1.lt
      have hp2 := hSt1.row2.lt
      have hq1' := hSt2.row1.lt
      have hq2' := hSt2.row2.lt
      have hz1' := hSt3.row1.lt
      have hz2' := hSt3.row2.lt
      have h2Plt : (∀ b, p1.ownBlock = some b → b < wa.heap.size) ∧ (∀ b, p2.ownBlock = some b → b < wa.heap.size) ∧ wr.heap.size + 1 < wa.heap.size := HPLT.out
      have h2Slt : (∀ b, s1.ownBlock = some b → b < wb.heap.size) ∧ (∀ b, s2.ownBlock = some b → b < wb.heap.size) ∧ wa.heap.size + 1 < wb.heap.size := HSLT.out
      have h2Zlt : (∀ b, z1.ownBlock = some b → b < wc.heap.size) ∧ (∀ b, z2.ownBlock = some b → b < wc.heap.size) ∧ wb.heap.size + 1 < wc.heap.size := ⟨fun b e => (h2Z.row1.lt b e).2, fun b e => (h2Z.row2.lt b e).2, h2Z.blk2.lt⟩
      obtain ⟨N, hN⟩ : ∃ N, N = ws.length := ⟨_, rfl⟩
      have k0w := Lib.hid (show w.heap.size ≤ bN from by have := HK.out.keeps.size; omega)
      clear hwN hbN hKc hKN h2Pc h2Sc h2Z kN hq1 hqS hqZ hsa hsb hsc
      go_wp2_with fail
      rename_i KL hKL
      refine (wpIn_wide (n := 6)).1 ?_
      refine range_good (F := Fence.wide) rfl (by omega) (gf := 54) (lb := #[.pointer (some ⟨wr.heap.size, 0, Option.none⟩), .pointer (some ⟨wr.heap.size + 1, 0, Option.none⟩)]) rfl trivial (enters_of Try.func54 (by kernel_rfl) rfl)
        (KP.seqB 5 (by omega) wr.heap.size wr.heap.size (wr.heap.size + 1) p1 p2 (TG.hasF (uniqF l) (gotPK ws bs)) bP hbPl (by omega)) (fun _ => rfl) wN.heap.size rfl
        (fun pre W => Blk W bN 3 [.int .i64 (pre.length : Int)] ∧ KSide B 0 W b5 b8 b9 gS ws bs (.slice Aw ws.length cw) (.slice Al bs.length cl) ∧ Blk W bR 4 [.bool false] ∧ Keeps (fun b => b ∈ bs ∨ b = bN) wN W) (fun _ _ _ => False) (fun b => b ∈ bs ∨ b = bN ∨ wN.heap.size + 2 ≤ b) ⟨fun e => by rcases e with e | e | e; have := hblw _ e; omega; omega; omega, fun e => by rcases e with e | e | e; have := hblw _ e; omega; omega; omega⟩
        ?_ (fun _ _ _ _ h _ => h) ?_ ⟨hBN, hsideN, hresN, Keeps.refl _ _⟩ hSt1 _ (fun _ => rfl) ?_ ?_ (fun _ _ _ _ h => h.elim)
      · rintro pre Y Z ⟨a1, a2, a3, a4⟩ hk
        exact ⟨a1.keeps hk (fun e => by simp only [One] at e; omega), a2.keepsNew hk (fun b e => by simp only [One] at e; omega) (fun b hb e => by have := hblw b hb; simp only [One] at e; omega) (fun b eb e => by have := (HK.out.side.row.lt b eb).2; simp only [One] at e; omega) (fun b eb e => by have := (World.ownsRow.lt HK.out.side.ls b eb).2; simp only [One] at e; omega), a3.keeps hk (fun e => by have := HLIE.out.a; have := HLIE.out.b; have := HLIE.out.c; simp only [One] at e; omega), a4.andThen hk (fun i hi e => by simp only [One] at e; omega)⟩
      · rintro Y Z h hk
        exact h.keeps hk (fun e => by simp only [One] at e; omega) (fun e => by simp only [One] at e; omega) (fun b e f => by simp only [One] at f; have := h2Plt.1 b e; omega) (fun b e f => by simp only [One] at f; have := h2Plt.2.1 b e; omega)
      · rintro pre ⟨sv, ⟨nm, Ax, mx, cx⟩⟩ W0' Wr ⟨a1, a2, a3, a4⟩ hk0 hpre hSt hlen hltB
        have hlk := zip_pick hbP hpre
        obtain ⟨idx, b, hi1, hb1, hpv⟩ := gotPK_look HK.out.len hlk
        obtain ⟨rfl, rfl, rfl, rfl⟩ : nm = ⟨#[112]⟩ ∧ Ax = some ⟨b, 0, Option.none⟩ ∧ mx = 2 ∧ cx = 2 := by simpa [KP.bval, pvK] using hpv
        have hbm : b ∈ bs := List.mem_of_getElem? hb1
        have hidl : idx < ws.length := (List.getElem?_eq_some_iff.1 hi1).1
        have HI := Lib.hid (And.intro hi1 hb1)
        clear hlk hpv hi1 hb1 hpre
        simp only [KP.encB, KP.bval, List.zip_toArray, List.foldl_toArray', List.zip_cons_cons, List.zip_nil_right, List.foldl_cons, List.foldl_nil, List.size_toArray, List.setIfInBounds_toArray, List.set_cons_zero, List.set_cons_succ]
        have hsW := hk0.size
        gi_wp2
        have kY := (Keeps.refl None Wr).alloc (.cells #[.string ⟨#[112]⟩, .slice (some ⟨b, 0, Option.none⟩) 2 2] 54)
        refine ⟨kY, fun w2 hkw2 => ?_⟩
        obtain ⟨xb, hxb⟩ : ∃ x, x = Wr.heap.size := ⟨_, rfl⟩
        have hX0 : Blk (Wr.alloc (.cells #[.string ⟨#[112]⟩, .slice (some ⟨b, 0, Option.none⟩) 2 2] 54)) xb 54 [.string ⟨#[112]⟩, .slice (some ⟨b, 0, Option.none⟩) 2 2] := by rw [hxb]; exact Blk.new _ _ _
        rw [← hxb]
        have hxW : wN.heap.size + 2 ≤ xb := by omega
        have k0Y := hk0.trans kY
        have hX2 := hX0.keeps hkw2 (fun e => by simp only [One] at e; omega)
        have hN2 := (a1.grew k0Y).keeps hkw2 (fun e => by simp only [One] at e; omega)
        have hsd2 := (a2.grew k0Y).keepsNew hkw2 (fun b e => by simp only [One] at e; omega) (fun b hb e => by have := hblw b hb; simp only [One] at e; omega) (fun b eb e => by have := (HK.out.side.row.lt b eb).2; simp only [One] at e; omega) (fun b eb e => by have := (World.ownsRow.lt HK.out.side.ls b eb).2; simp only [One] at e; omega)
        have hR2 := (a3.grew k0Y).keeps hkw2 (fun e => by have := HLIE.out.a; have := HLIE.out.b; have := HLIE.out.c; simp only [One] at e; omega)
        have hK2 := (a4.trans k0Y.of_none).andThen hkw2 (fun i hi e => by simp only [One] at e; omega)
        have hT2 := (hSt.grew kY).keeps hkw2 (fun e => by simp only [One] at e; omega) (fun e => by simp only [One] at e; omega) (fun b e f => by simp only [One] at f; have := h2Plt.1 b e; omega) (fun b e f => by simp only [One] at f; have := h2Plt.2.1 b e; omega)
        have hpl : pre.length ≤ 1048576 := by omega
        have c8 := hsd2.c8.cell 0 _ rfl
        have hs2 := hkw2.size
        have hsY := kY.size
        clear hX0 hxb a1 a2 a3 a4 hkw2 k0Y hSt kY hk0
        have hnu := (Nums.row hsd2.row).1
        gi_wp2
        gi_loopw [20] (fun i wx => ∃ q : Nat, q ≤ idx ∧ i = .int .i64 q ∧ w2 = wx) (fun i _ => idx - (intOf i).toNat)
        case atStart => exact ⟨0, Nat.zero_le _, rfl, rfl⟩
        case round =>
          obtain ⟨q, hq, rfl, rfl⟩ := hrel
          obtain ⟨y, b1, o1, rfl, hcy, hy⟩ := hnu.get q (by omega)
          have hql : q < ws.length := by omega
          by_cases hqi : q < idx
          · obtain ⟨tq1, tq2⟩ := test_ne (show ¬ y = sv from fun e => by
              subst e
              have h1 := (List.getElem?_inj (by omega) HK.out.nd).1 (hy.out.trans HI.out.1.symm)
              omega)
            gi_wp2
            go_roundw
            case rel => exact ⟨q + 1, by omega, by go_num, trivial⟩
            case measure => simp [intOf]; omega
          · obtain ⟨tq1, tq2⟩ := test_eq (show y = sv from by
              have e : q = idx := by omega
              have h1 := hy.out
              rw [e, HI.out.1] at h1
              exact (Option.some.inj h1).symm)
            obtain rfl : q = idx := by omega
            obtain ⟨gl, egl, hcl⟩ : ∃ gl, Al = some ⟨gl, 0, Option.none⟩ ∧ w2.cell? ⟨gl, q, Option.none⟩ = some (.slice (some ⟨b, 0, Option.none⟩) 2 2) := by
              have hql2 : q < bs.length := (List.getElem?_eq_some_iff.1 HI.out.2).1
              rcases hsd2.ls.2 with ⟨e, h0⟩ | ⟨gl, c0, cur, e, -⟩
              · omega
              · cases e
                have h1 := hsd2.ls.cells (g := gl) rfl q (.slice (some ⟨b, 0, Option.none⟩) 2 2) (by rw [List.getElem?_map, HI.out.2]; rfl)
                rw [Addr.add_lit, Nat.zero_add] at h1
                exact ⟨gl, rfl, h1⟩
            subst egl
            have hql2 : q < bs.length := (List.getElem?_eq_some_iff.1 HI.out.2).1
            obtain ⟨hbB, ⟨xv, yv, hBb⟩, hwb⟩ := hsd2.bl b hbm
            have x0 := hX2.cell 0 _ rfl
            have x1 := hX2.cell 1 _ rfl
            have c9 := hsd2.c9.cell 0 _ rfl
            have d1 := hBb.cell 1 _ rfl
            have fd1 := hBb.free 1
            have n0 := hN2.cell 0 _ rfl
            have fn0 := hN2.free 0
            have hbx : b ≠ xb := by have := hblw b hbm; omega
            have hbn : b ≠ bN := by have := hblw b hbm; omega
            have hw3 : IntKind.i64.wrap ((pre.length : Int) + 1) = (pre.length : Int) + 1 := IntWalk.i64_in _ (by omega)
            gi_wp2
            have ks1 : Keeps (One b) w2 (w2.setCell ⟨b, 1, Option.none⟩ (.int .i64 (-5))) := (Keeps.refl _ _).setCell _ _ (fun _ => rfl)
            have ks2 : Keeps (One bN) (w2.setCell ⟨b, 1, Option.none⟩ (.int .i64 (-5))) ((w2.setCell ⟨b, 1, Option.none⟩ (.int .i64 (-5))).setCell ⟨bN, 0, Option.none⟩ (.int .i64 ((pre.length : Int) + 1))) := (Keeps.refl _ _).setCell _ _ (fun _ => rfl)
            have ks : Keeps (fun c => c = b ∨ c = bN) w2 ((w2.setCell ⟨b, 1, Option.none⟩ (.int .i64 (-5))).setCell ⟨bN, 0, Option.none⟩ (.int .i64 ((pre.length : Int) + 1))) := (ks1.mono (fun _ _ e => .inl e)).trans (ks2.mono (fun _ _ e => .inr e))
            have hbl := hblw b hbm
            refine ⟨ks.mono (fun c _ e => e.elim (fun e => .inl (by rw [e]; exact hbm)) (fun e => .inr (.inl e))), hT2.keeps ks (fun e => by omega) (fun e => by omega) (fun c e f => by have := (hp1 c e).1; have := h2Plt.1 c e; omega) (fun c e f => by have := (hp2 c e).1; have := h2Plt.2.1 c e; omega), ?_, ?_, ?_, hK2.trans (ks.mono (fun c _ e => e.elim (fun e => .inl (by rw [e]; exact hbm)) .inr))⟩
            · have := (hN2.keeps ks1 (fun e => hbn e.symm)).set 0 (.int .i64 ((pre.length : Int) + 1))
              rw [List.length_append]
              simpa using this
            · exact (hsd2.mark hbm (-5)).keepsNew ks2 (fun c e => by simp only [One] at e; omega) (fun c hc e => by have := hblw c hc; simp only [One] at e; omega) (fun c eb e => by have := (HK.out.side.row.lt c eb).2; simp only [One] at e; omega) (fun c eb e => by have := (World.ownsRow.lt HK.out.side.ls c eb).2; simp only [One] at e; omega)
            · exact hR2.keeps ks (fun e => by have := HLIE.out.a; have := HLIE.out.b; have := HLIE.out.c; omega)
      · rintro xs wT hSf ⟨a1, a2, a3, a4⟩ hD1
        have hxl : (xs.length : Int) = N := by rw [hSf, List.length_zip]; omega
        rw [hxl] at a1
        have hD1s : wN.heap.size < wT.heap.size := (Array.getElem?_eq_some_iff.1 hD1).1
        have hT2 := hSt2.keeps a4 (fun e => by rcases e with e | e; have := hblw _ e; omega; omega) (fun e => by rcases e with e | e; have := hblw _ e; omega; omega) (fun b eb e => by have := (hq1' b eb).1; have := h2Slt.1 b eb; rcases e with e | e; have := hblw _ e; omega; omega) (fun b eb e => by have := (hq2' b eb).1; have := h2Slt.2.1 b eb; rcases e with e | e; have := hblw _ e; omega; omega)
        have hT3 := hSt3.keeps a4 (fun e => by rcases e with e | e; have := hblw _ e; omega; omega) (fun e => by rcases e with e | e; have := hblw _ e; omega; omega) (fun b eb e => by have := (hz1' b eb).1; have := h2Zlt.1 b eb; rcases e with e | e; have := hblw _ e; omega; omega) (fun b eb e => by have := (hz2' b eb).1; have := h2Zlt.2.1 b eb; rcases e with e | e; have := hblw _ e; omega; omega)
        have hkT : Keeps None w wT := hkN.andThen a4 (fun i hi e => by rcases e with e | e; have := (hsideN.bl i e).1; omega; have := k0w.out; omega)
        have hN10 : N ≤ 1048576 := by omega
        have HN := Lib.hid hN
        clear hSf hxl a4 hsideN hresN hBN hSt1 hSt2 hSt3 hkN hp1 hp2 hN
        change KL _ _
        refine hKL _ _ ?_
        clear hKL KL
        go_wp2_with fail
        rename_i KL hKL
        refine (wpIn_wide (n := 6)).1 ?_
        refine range_good (F := Fence.wide) rfl (by omega) (gf := 55) (lb := #[.pointer (some ⟨wa.heap.size, 0, Option.none⟩), .pointer (some ⟨wa.heap.size + 1, 0, Option.none⟩)]) rfl trivial (enters_of Try.func55 (by kernel_rfl) rfl)
          (KS.seqB 5 (by omega) wa.heap.size wa.heap.size (wa.heap.size + 1) s1 s2 (TG.hasF (uniqF l) gotS) bS hbSl (by omega)) (fun _ => rfl) wT.heap.size rfl
          (fun pre W => Blk W bN 3 [.int .i64 ((N : Int) + pre.length)] ∧ KSide B 0 W b5 b8 b9 gS ws bs (.slice Aw ws.length cw) (.slice Al bs.length cl) ∧ Blk W bR 4 [.bool false] ∧ W.heap[wN.heap.size]? = some (.deferred (some [])) ∧ Keeps (One bN) wT W) (fun _ _ _ => False) (fun b => b = bN ∨ wT.heap.size + 2 ≤ b) ⟨fun e => by omega, fun e => by omega⟩
          ?_ (fun _ _ _ _ h _ => h) ?_ ⟨by simpa using a1, a2, a3, hD1, Keeps.refl _ _⟩ hT2 _ (fun _ => rfl) ?_ ?_ (fun _ _ _ _ h => h.elim)
        · rintro pre Y Z ⟨g1, g2, g3, g4, g5⟩ hk
          exact ⟨g1.keeps hk (fun e => by simp only [One] at e; omega), g2.keepsNew hk (fun b e => by simp only [One] at e; omega) (fun b hb e => by have := hblw b hb; simp only [One] at e; omega) (fun b eb e => by have := (HK.out.side.row.lt b eb).2; simp only [One] at e; omega) (fun b eb e => by have := (World.ownsRow.lt HK.out.side.ls b eb).2; simp only [One] at e; omega), g3.keeps hk (fun e => by have := HLIE.out.a; have := HLIE.out.b; have := HLIE.out.c; simp only [One] at e; omega), (hk.block _ (Array.getElem?_eq_some_iff.1 g4).1 (fun e => by simp only [One] at e; omega)).trans g4, g5.andThen hk (fun i hi e => by simp only [One] at e; omega)⟩
        · rintro Y Z h hk
          exact h.keeps hk (fun e => by simp only [One] at e; omega) (fun e => by simp only [One] at e; omega) (fun b e f => by simp only [One] at f; have := h2Slt.1 b e; omega) (fun b e f => by simp only [One] at f; have := h2Slt.2.1 b e; omega)
        · rintro pre ⟨sv, xv⟩ W0' Wr ⟨g1, g2, g3, g4, g5⟩ hk0 hpre hSt hlen hltB
          have hlk := zip_pick hbS hpre
          have hsw : sv ∈ ws := by
            have h1 := lookV_fst gotS sv
            rw [hlk, HK.out.keys] at h1
            simpa using h1.symm
          obtain ⟨c, ec, hc1⟩ := HK.out.one _ (TG.lookV_mem hlk)
          simp only [KS.bval] at ec
          obtain rfl : xv = c := by simpa using ec
          have hc2 : (xv.size : Int) = 1 := by omega
          simp only [KS.encB, KS.bval, List.zip_toArray, List.foldl_toArray', List.zip_cons_cons, List.zip_nil_right, List.foldl_cons, List.foldl_nil, List.size_toArray, List.setIfInBounds_toArray, List.set_cons_zero, List.set_cons_succ]
          have hsW := hk0.size
          clear hlk ec hpre
          gi_wp2
          refine ⟨Keeps.refl _ _, fun w2 hkw2 => ?_⟩
          have kYW := hk0
          have hN2 := (g1.grew hk0).keeps hkw2 (fun e => by simp only [One] at e; omega)
          have hsd2 := (g2.grew hk0).keepsNew hkw2 (fun b e => by simp only [One] at e; omega) (fun b hb e => by have := hblw b hb; simp only [One] at e; omega) (fun b eb e => by have := (HK.out.side.row.lt b eb).2; simp only [One] at e; omega) (fun b eb e => by have := (World.ownsRow.lt HK.out.side.ls b eb).2; simp only [One] at e; omega)
          have hR2 := (g3.grew hk0).keeps hkw2 (fun e => by have := HLIE.out.a; have := HLIE.out.b; have := HLIE.out.c; simp only [One] at e; omega)
          have gD := (hk0.block _ (Array.getElem?_eq_some_iff.1 g4).1 id).trans g4
          have hD2 := (hkw2.block _ (Array.getElem?_eq_some_iff.1 gD).1 (fun e => by simp only [One] at e; omega)).trans gD
          have hK2 := (g5.trans hk0.of_none).andThen hkw2 (fun i hi e => by simp only [One] at e; omega)
          have hTT := hSt.keeps hkw2 (fun e => by simp only [One] at e; omega) (fun e => by simp only [One] at e; omega) (fun b e f => by simp only [One] at f; have := h2Slt.1 b e; omega) (fun b e f => by simp only [One] at f; have := h2Slt.2.1 b e; omega)
          have hpl : pre.length ≤ 1048576 := by omega
          have c8 := hsd2.c8.cell 0 _ rfl
          have hwl5 : ws.length ≤ 140737488351232 := by omega
          have hnu := (Nums.row hsd2.row).1
          have hs2 := hkw2.size
          have hw3 : IntKind.i64.wrap ((N : Int) + pre.length + 1) = (N : Int) + pre.length + 1 := IntWalk.i64_in _ (by omega)
          clear g1 g2 g3 g4 g5 gD hkw2 hk0 hSt kYW
          gi_wp2_with (refine ⟨trivial, ?_⟩; gi_at_call 22; refine (CallsIn.inRound (wT.heap.size + 1) (callsIn_wide.2 (stands_any Aw ws.length cw ws sv w2 hnu rfl hwl5))).mono ?_; rintro e wd ⟨hdd, rfl⟩; rw [decide_eq_true hsw]; have n0 := (hN2.grew (hdd.keeps None)).cell 0 _ rfl; have fn0 := (hN2.grew (hdd.keeps None)).free 0)
          have kd := hdd.keeps None
          have ksb : Keeps (One bN) wd (wd.setCell ⟨bN, 0, Option.none⟩ (.int .i64 ((N : Int) + pre.length + 1))) := (Keeps.refl _ _).setCell _ _ (fun _ => rfl)
          have ks : Keeps (One bN) w2 (wd.setCell ⟨bN, 0, Option.none⟩ (.int .i64 ((N : Int) + pre.length + 1))) := kd.of_none.trans ksb
          refine ⟨ks.mono (fun c _ e => .inl e), hTT.keeps ks (fun e => by simp only [One] at e; omega) (fun e => by simp only [One] at e; omega) (fun c e f => by have := h2Slt.1 c e; simp only [One] at f; omega) (fun c e f => by have := h2Slt.2.1 c e; simp only [One] at f; omega), ?_, hsd2.keepsNew ks (fun c e => by simp only [One] at e; omega) (fun c hc e => by have := hblw c hc; simp only [One] at e; omega) (fun c eb e => by have := (HK.out.side.row.lt c eb).2; simp only [One] at e; omega) (fun c eb e => by have := (World.ownsRow.lt HK.out.side.ls c eb).2; simp only [One] at e; omega), hR2.keeps ks (fun e => by have := HLIE.out.a; have := HLIE.out.b; have := HLIE.out.c; simp only [One] at e; omega), (ks.block _ (Array.getElem?_eq_some_iff.1 hD2).1 (fun e => by simp only [One] at e; omega)).trans hD2, hK2.trans ks⟩
          have := (hN2.grew kd).set 0 (.int .i64 ((N : Int) + pre.length + 1))
          rw [List.length_append]
          simpa [Int.add_assoc] using this
        · rintro xs wU hSf ⟨g1, g2, g3, g4, g5⟩ hDb
          have hxl : (xs.length : Int) = N := by rw [hSf, List.length_zip]; have := HN.out; omega
          rw [hxl] at g1
          have hD2s : wT.heap.size < wU.heap.size := (Array.getElem?_eq_some_iff.1 hDb).1
          have hTZ := hT3.keeps g5 (fun e => by simp only [One] at e; omega) (fun e => by simp only [One] at e; omega) (fun b eb e => by have := h2Zlt.1 b eb; simp only [One] at e; omega) (fun b eb e => by have := h2Zlt.2.1 b eb; simp only [One] at e; omega)
          have hkU : Keeps None w wU := hkT.andThen g5 (fun i hi e => by have := k0w.out; simp only [One] at e; omega)
          have c5U := g2.c5
          clear hSf hxl g5 hT2 hT3 hkT a1 a2 a3 hD1 hbSl
          change KL _ _
          refine hKL _ _ ?_
          clear hKL KL
          go_wp2_with fail
          rename_i KL hKL
          refine (wpIn_wide (n := 6)).1 ?_
          refine range_good (F := Fence.wide) rfl (by omega) (gf := 56) (lb := #[.pointer (some ⟨wb.heap.size, 0, Option.none⟩), .pointer (some ⟨wb.heap.size + 1, 0, Option.none⟩)]) rfl trivial (enters_of Try.func56 (by kernel_rfl) rfl)
            (KZ.seqB 5 (by omega) wb.heap.size wb.heap.size (wb.heap.size + 1) z1 z2 (TG.hasF (uniqF l) (gotZK ws gS)) bZ hbZl (by omega)) (fun _ => rfl) wU.heap.size rfl
            (fun pre W => Blk W bN 3 [.int .i64 ((N : Int) + N + pre.length)] ∧ KSide B 0 W b5 b8 b9 gS ws bs (.slice Aw ws.length cw) (.slice Al bs.length cl) ∧ Blk W bR 4 [.bool false] ∧ (W.heap[wN.heap.size]? = some (.deferred (some [])) ∧ W.heap[wT.heap.size]? = some (.deferred (some []))) ∧ Keeps (One bN) wU W) (fun _ _ _ => False) (fun b => b = bN ∨ wU.heap.size + 2 ≤ b) ⟨fun e => by omega, fun e => by omega⟩
            ?_ (fun _ _ _ _ h _ => h) ?_ ⟨by simpa using g1, g2, g3, ⟨g4, hDb⟩, Keeps.refl _ _⟩ hTZ _ (fun _ => rfl) ?_ ?_ (fun _ _ _ _ h => h.elim)
          · rintro pre Y Z ⟨g1, g2, g3, ⟨g4, g4'⟩, g5⟩ hk
            exact ⟨g1.keeps hk (fun e => by simp only [One] at e; omega), g2.keepsNew hk (fun b e => by simp only [One] at e; omega) (fun b hb e => by have := hblw b hb; simp only [One] at e; omega) (fun b eb e => by have := (HK.out.side.row.lt b eb).2; simp only [One] at e; omega) (fun b eb e => by have := (World.ownsRow.lt HK.out.side.ls b eb).2; simp only [One] at e; omega), g3.keeps hk (fun e => by have := HLIE.out.a; have := HLIE.out.b; have := HLIE.out.c; simp only [One] at e; omega), ⟨(hk.block _ (Array.getElem?_eq_some_iff.1 g4).1 (fun e => by simp only [One] at e; omega)).trans g4, (hk.block _ (Array.getElem?_eq_some_iff.1 g4').1 (fun e => by simp only [One] at e; omega)).trans g4'⟩, g5.andThen hk (fun i hi e => by simp only [One] at e; omega)⟩
          · rintro Y Z h hk
            exact h.keeps hk (fun e => by simp only [One] at e; omega) (fun e => by simp only [One] at e; omega) (fun b e f => by simp only [One] at f; have := h2Zlt.1 b e; omega) (fun b e f => by simp only [One] at f; have := h2Zlt.2.1 b e; omega)
          · rintro pre ⟨sv, xv⟩ W0' Wr ⟨g1, g2, g3, ⟨g4, g4'⟩, g5⟩ hk0 hpre hSt hlen hltB
            have hlk := zip_pick hbZ hpre
            have hxg : xv = gS := by
              have h1 := TG.lookV_mem hlk
              unfold gotZK at h1
              obtain ⟨q, -, e⟩ := List.mem_map.1 h1
              simp only [KZ.bval] at e
              cases e
              rfl
            subst hxg
            simp only [KZ.encB, KZ.bval, List.zip_toArray, List.foldl_toArray', List.zip_cons_cons, List.zip_nil_right, List.foldl_cons, List.foldl_nil, List.size_toArray, List.setIfInBounds_toArray, List.set_cons_zero, List.set_cons_succ]
            have hsW := hk0.size
            clear hlk hpre
            gi_wp2
            refine ⟨Keeps.refl _ _, fun w2 hkw2 => ?_⟩
            have hN2 := (g1.grew hk0).keeps hkw2 (fun e => by simp only [One] at e; omega)
            have hsd2 := (g2.grew hk0).keepsNew hkw2 (fun b e => by simp only [One] at e; omega) (fun b hb e => by have := hblw b hb; simp only [One] at e; omega) (fun b eb e => by have := (HK.out.side.row.lt b eb).2; simp only [One] at e; omega) (fun b eb e => by have := (World.ownsRow.lt HK.out.side.ls b eb).2; simp only [One] at e; omega)
            have hR2 := (g3.grew hk0).keeps hkw2 (fun e => by have := HLIE.out.a; have := HLIE.out.b; have := HLIE.out.c; simp only [One] at e; omega)
            have gD := (hk0.block _ (Array.getElem?_eq_some_iff.1 g4).1 id).trans g4
            have hD2 := (hkw2.block _ (Array.getElem?_eq_some_iff.1 gD).1 (fun e => by simp only [One] at e; omega)).trans gD
            have gD' := (hk0.block _ (Array.getElem?_eq_some_iff.1 g4').1 id).trans g4'
            have hD2' := (hkw2.block _ (Array.getElem?_eq_some_iff.1 gD').1 (fun e => by simp only [One] at e; omega)).trans gD'
            have hK2 := (g5.trans hk0.of_none).andThen hkw2 (fun i hi e => by simp only [One] at e; omega)
            have hTT := hSt.keeps hkw2 (fun e => by simp only [One] at e; omega) (fun e => by simp only [One] at e; omega) (fun b e f => by simp only [One] at f; have := h2Zlt.1 b e; omega) (fun b e f => by simp only [One] at f; have := h2Zlt.2.1 b e; omega)
            have hpl : pre.length ≤ 1048576 := by omega
            have c5 := hsd2.c5.cell 0 _ rfl
            have n0 := hN2.cell 0 _ rfl
            have fn0 := hN2.free 0
            have hnp := neq_ptr w2 xv
            have hs2 := hkw2.size
            have hw3 : IntKind.i64.wrap ((N : Int) + N + pre.length + 1) = (N : Int) + N + pre.length + 1 := IntWalk.i64_in _ (by omega)
            clear g1 g2 g3 g4 g4' g5 gD gD' hkw2 hk0 hSt
            gi_wp2
            have ks : Keeps (One bN) w2 (w2.setCell ⟨bN, 0, Option.none⟩ (.int .i64 ((N : Int) + N + pre.length + 1))) := (Keeps.refl _ _).setCell _ _ (fun _ => rfl)
            refine ⟨ks.mono (fun c _ e => .inl e), hTT.keeps ks (fun e => by simp only [One] at e; omega) (fun e => by simp only [One] at e; omega) (fun c e f => by have := h2Zlt.1 c e; simp only [One] at f; omega) (fun c e f => by have := h2Zlt.2.1 c e; simp only [One] at f; omega), ?_, hsd2.keepsNew ks (fun c e => by simp only [One] at e; omega) (fun c hc e => by have := hblw c hc; simp only [One] at e; omega) (fun c eb e => by have := (HK.out.side.row.lt c eb).2; simp only [One] at e; omega) (fun c eb e => by have := (World.ownsRow.lt HK.out.side.ls c eb).2; simp only [One] at e; omega), hR2.keeps ks (fun e => by have := HLIE.out.a; have := HLIE.out.b; have := HLIE.out.c; simp only [One] at e; omega), ⟨(ks.block _ (Array.getElem?_eq_some_iff.1 hD2).1 (fun e => by simp only [One] at e; omega)).trans hD2, (ks.block _ (Array.getElem?_eq_some_iff.1 hD2').1 (fun e => by simp only [One] at e; omega)).trans hD2'⟩, hK2.trans ks⟩
            have := hN2.set 0 (.int .i64 ((N : Int) + N + pre.length + 1))
            rw [List.length_append]
            simpa [Int.add_assoc] using this
          · rintro xs wV hSf ⟨g1, g2, g3, ⟨g4, g4'⟩, g5⟩ hDc
            have hxl : (xs.length : Int) = N := by rw [hSf, List.length_zip]; have := HN.out; omega
            rw [hxl] at g1
            have hkV : Keeps None w wV := hkU.andThen g5 (fun i hi e => by have := k0w.out; simp only [One] at e; omega)
            have n0 := g1.cell 0 _ rfl
            have c8 := g2.c8.cell 0 _ rfl
            have r0 := g3.cell 0 _ rfl
            have fr0 := g3.free 0
            have hw3 : IntKind.i64.wrap (3 * (ws.length : Int)) = (N : Int) + N + N := by rw [IntWalk.i64_in _ (by omega)]; have := HN.out; omega
            clear hSf hxl g5 hTZ hkU
            change KL _ _
            refine hKL _ _ ?_
            clear hKL KL
            go_wp2_with fail
            have ks : Keeps (One bR) wV (wV.setCell ⟨bR, 0, Option.none⟩ (.bool true)) := (Keeps.refl _ _).setCell _ _ (fun _ => rfl)
            have hRV : Blk (wV.setCell ⟨bR, 0, Option.none⟩ (.bool true)) bR 4 [.bool true] := by
              have := g3.set 0 (.bool true)
              simpa using this
            have hRl := hRV.lt
            have hRB : bR < wN.heap.size := by have := HLIE.out.a; have := HLIE.out.b; have := HLIE.out.c; omega
            have hwVs : wU.heap.size < wV.heap.size := (Array.getElem?_eq_some_iff.1 hDc).1
            have d1 : (wV.setCell ⟨bR, 0, Option.none⟩ (.bool true)).heap[wU.heap.size]? = some (.deferred (some [])) := (ks.block _ (Array.getElem?_eq_some_iff.1 hDc).1 (fun e => by simp only [One] at e; omega)).trans hDc
            have d2a : (wV.setCell ⟨bR, 0, Option.none⟩ (.bool true)).heap[wT.heap.size]? = some (.deferred (some [])) := (ks.block _ (Array.getElem?_eq_some_iff.1 g4').1 (fun e => by simp only [One] at e; omega)).trans g4'
            have d3a : (wV.setCell ⟨bR, 0, Option.none⟩ (.bool true)).heap[wN.heap.size]? = some (.deferred (some [])) := (ks.block _ (Array.getElem?_eq_some_iff.1 g4).1 (fun e => by simp only [One] at e; omega)).trans g4
            obtain ⟨W1, hW1⟩ : ∃ W, W = wV.setCell ⟨bR, 0, Option.none⟩ (.bool true) := ⟨_, rfl⟩
            rw [← hW1] at ks hRV d1 d2a d3a ⊢
            have kp1 : Keeps (One wU.heap.size) W1 (W1.putObj wU.heap.size (.deferred Option.none)) := keeps_putObj _ _ _
            have d2 := (kp1.block _ (Array.getElem?_eq_some_iff.1 d2a).1 (fun e => by simp only [One] at e; omega)).trans d2a
            have d3b := (kp1.block _ (Array.getElem?_eq_some_iff.1 d3a).1 (fun e => by simp only [One] at e; omega)).trans d3a
            have kp2 : Keeps (One wT.heap.size) (W1.putObj wU.heap.size (.deferred Option.none)) ((W1.putObj wU.heap.size (.deferred Option.none)).putObj wT.heap.size (.deferred Option.none)) := keeps_putObj _ _ _
            have d3 := (kp2.block _ (Array.getElem?_eq_some_iff.1 d3b).1 (fun e => by simp only [One] at e; omega)).trans d3b
            have kp3 : Keeps (One wN.heap.size) ((W1.putObj wU.heap.size (.deferred Option.none)).putObj wT.heap.size (.deferred Option.none)) (((W1.putObj wU.heap.size (.deferred Option.none)).putObj wT.heap.size (.deferred Option.none)).putObj wN.heap.size (.deferred Option.none)) := keeps_putObj _ _ _
            have hRF := ((hRV.keeps kp1 (fun e => by simp only [One] at e; omega)).keeps kp2 (fun e => by simp only [One] at e; omega)).keeps kp3 (fun e => by simp only [One] at e; omega)
            have hNlow : w.heap.size ≤ wN.heap.size := by have := k0w.out; omega
            have KF := (((hkV.andThen ks (fun i hi e => by have := HLIE.out.a; simp only [One] at e; omega)).andThen kp1 (fun i hi e => by simp only [One] at e; omega)).andThen kp2 (fun i hi e => by simp only [One] at e; omega)).andThen kp3 (fun i hi e => by simp only [One] at e; omega)
            refine ⟨by simp, .inl ⟨_, _, rfl, run_takeDeferred d1, ⟨by simp, .inl ⟨_, _, rfl, run_takeDeferred d2, ⟨by simp, .inl ⟨_, _, rfl, run_takeDeferred d3, ?_⟩⟩⟩⟩⟩⟩
            exact ⟨_, results_k _ _ bR true rfl (hRF.cell 0 _ rfl), rfl, KF⟩
end Go.Proofs.Ytghbgcmhahndkaa
