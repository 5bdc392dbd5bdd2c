/- The program's recurrence. -/
import Derived.Test.YtmekhjnhcgmphaaDoorSpF
namespace Go.Proofs.YtmekhjnhcgmphaaDoor
set_option maxRecDepth 100000
open Go Go.RowKit
/-- The gap on the way. -/
def gpT (a s : List Int) (n i : Nat) : Int := sg (fun i => cf a i * cf s (n - i)) i
theorem gpT_bd {p : Int} {a s : List Int} (ha : allEl p a = true) (hs : allEl p s = true) (hp : p ≤ 97) (n : Nat) : ∀ i, 0 ≤ gpT a s n i ∧ gpT a s n i ≤ 9216 * i
  | 0 => ⟨Int.le_refl _, Int.le_refl _⟩
  | i + 1 => by
    have h := gpT_bd ha hs hp n i
    have := mul_bd (allEl_bd ha hp i) (allEl_bd hs hp (n - i))
    show 0 ≤ gpT a s n i + cf a i * cf s (n - i) ∧ gpT a s n i + cf a i * cf s (n - i) ≤ 9216 * ((i + 1 : Nat) : Int)
    unfold cf
    omega
theorem gpT_gap (p : Int) (s : List Int) (n : Nat) (x : BmS) : gpT x.now s n (x.L + 1) % p = bmGap p s n x := rfl
theorem append_two {t u ty e e' : TypeId} {A : Option Addr} {n c : Nat} {x : Value} {w : World} (ht : Tryd.prog.underlying t = some (.slice e)) (hu : Tryd.prog.underlying u = some (.slice e')) : (Builtin.append_ #[t, u] ty #[.slice A n c, x]).run Tryd.prog w = (Builtin.append_ #[t, t] ty #[.slice A n c, x]).run Tryd.prog w := by
  simp [Builtin.append_, run_underlying ht, run_underlying hu]
theorem wpList_append_run2 {P : Program} {ops : Array Oper} {rest : List Oper} {o : Oper} {a : Act} {w : World} {Q : Exit → Act → World → Prop} (hgd : o.guard = none) (s x : Operand) (t u : TypeId)
    (ho : o.op = .call { callee := .builtin .append, args := #[s, x], argTypes := #[t, u] }) {vs vx v' : Value} {w' : World} (hs : a.eval s = vs) (hx : a.eval x = vx)
    (hrun : (Builtin.append_ #[t, u] o.type #[vs, vx]).run P w = .ok v' w') (h : wpList P ops Q rest (a.put o.dst v') w') : wpList P ops Q (o :: rest) a w :=
  wpList_plain hgd fun K hK => by
    unfold Oper.wp execOp
    simp only [ho, resolve, invoke, builtin, Sem.run_bind, Sem.run_pure, Result.andThen_ok, List.map_toArray, List.map_cons, List.map_nil, hs, hx, hrun]
    exact hK _ _ h
theorem undC : Tryd.prog.underlying 58 = some (.slice 3) := by kernel_rfl
theorem Blk.al {w : World} {g B : Nat} {xs : List Int} (h : Blk w g xs) (hB : B ≤ g) (hl : xs.length ≤ 1099511627776) : AL w B (.slice (some ⟨g, 0, none⟩) xs.length xs.length) xs := by
  refine ⟨by simp, .inr ⟨g, xs.length, _, rfl, hB, h, Nat.le_refl _, by unfold maxLen; omega, ?_, ?_⟩⟩
  · simp
  · exact List.take_of_length_le (by simp)
set_option maxHeartbeats 16000000 in
theorem recurrence_c (p : Int) (s : List Int) (A : Option Addr) (c : Nat) (w : World) (hF : fieldB p = true) (h : Rd w A s) (hs : allEl p s = true) (hl : s.length ≤ 60) :
    Calls Tryd.prog 38 #[.int .i64 p, .slice A s.length c] w fun e w' => ∃ A' a, e = .returned (.tuple #[.slice A' (bmRun p s s.length).now.length a, .int .i64 (bmRun p s s.length).L]) ∧ Rd w' A' (bmRun p s s.length).now ∧ Ex w w' := by
  have h2 := fieldB_lo hF
  have h97 := fieldB_hi hF
  have Hs := Lib.hid hs
  have HB := Lib.hid (bm_good hF s)
  obtain ⟨N, hN⟩ : ∃ N, s.length = N := ⟨_, rfl⟩
  have HN := Lib.hid hN
  rw [hN] at hl ⊢
  obtain ⟨X, hX⟩ : ∃ X, bmRun p s N = X := ⟨_, rfl⟩
  have HX := Lib.hid hX
  rw [hX]
  clear hF hs hN hX
  have y1 := (Ex.refl w).alloc (.cells #[.int .i64 1] 3)
  have b1 := Blk.new w [1]
  have y2 := (Ex.refl (w.alloc (.cells #[.int .i64 1] 3))).alloc (.cells #[.int .i64 1] 3)
  have b2 := Blk.new (w.alloc (.cells #[.int .i64 1] 3)) [1]
  go_enter Tryd.func38, Tryd.ntmps38
  go_wp2_with fail
  have r1 : Rd ((w.alloc (.cells #[.int .i64 1] 3)).alloc (.cells #[.int .i64 1] 3)) (some ⟨w.heap.size, 0, none⟩) [1] := (b1.rd (by simp)).ex y2
  have r2 : Rd ((w.alloc (.cells #[.int .i64 1] 3)).alloc (.cells #[.int .i64 1] 3)) (some ⟨w.heap.size + 1, 0, none⟩) [1] := by
    have e : (w.alloc (.cells #[.int .i64 1] 3)).heap.size = w.heap.size + 1 := by simp
    have := b2.rd (by simp)
    rw [e] at this
    exact this
  have y3 := y1.trans y2
  clear b1 b2 y1 y2
  generalize (w.alloc (.cells #[.int .i64 1] 3)).alloc (.cells #[.int .i64 1] 3) = W at *
  go_loopw [6, 7, 8, 9, 10, 20] (fun s6 s7 s8 s9 s10 s20 wr => ∃ (n : Nat) (nw bf : List Int) (L sh : Nat) (la : Int) (A1 B1 : Option Addr) (a b : Nat), n ≤ N ∧ Hid (bmRun p s n = ⟨nw, bf, L, sh, la⟩) ∧ s6 = .slice A1 nw.length a ∧ s7 = .slice B1 bf.length b ∧ s8 = .int .i64 L ∧ s9 = .int .i64 sh ∧ s10 = .int .i64 la ∧ s20 = .int .i64 n ∧ Rd wr A1 nw ∧ Rd wr B1 bf ∧ Ex w wr) (fun _ _ _ _ _ s20 _ => N - (intOf s20).toNat)
  case atStart => exact ⟨0, [1], [1], 0, 1, 1, _, _, 1, 1, Nat.zero_le _, Lib.hid rfl, rfl, rfl, rfl, rfl, rfl, rfl, r1, r2, y3⟩
  case round =>
    rename World => wr
    clear r1 r2 y3
    obtain ⟨n, nw, bf, L, sh, la, A1, B1, a, b, hn, Hx, rfl, rfl, rfl, rfl, rfl, rfl, hA, hB, he⟩ := hrel
    by_cases hnN : n < N
    · have hg := HB.out n
      rw [Hx.out] at hg
      have hLn : L ≤ n := hg.good.len
      have Hne := Lib.hid hg.ne
      have Hbe := Lib.hid hg.be
      have hl0 : 0 < la := hg.l0
      have hl1 : la < p := hg.l1
      have hsh : sh ≤ n + 1 := hg.shl
      have hbl : bf.length ≤ n + 1 := hg.bl
      have HS := Lib.hid (show bmRun p s (n + 1) = bmStep p s n ⟨nw, bf, L, sh, la⟩ by show bmStep p s n (bmRun p s n) = _; rw [Hx.out])
      have HG := Lib.hid (gpT_gap p s n ⟨nw, bf, L, sh, la⟩)
      have hgp := fun i => gpT_bd Hne.out Hs.out h97 n i
      clear hg
      go_wp2_with fail
      go_loopw [12, 13] (fun s12 s13 wi => ∃ i : Nat, i ≤ L + 1 ∧ s12 = .int .i64 (gpT nw s n i) ∧ s13 = .int .i64 i ∧ Ex wr wi) (fun _ s13 _ => L + 1 - (intOf s13).toNat)
      case atStart => exact ⟨0, Nat.zero_le _, rfl, rfl, Ex.refl _⟩
      case round =>
        rename World => wi
        obtain ⟨i, hi, rfl, rfl, hei⟩ := hrel
        by_cases hil : i ≤ L
        · obtain ⟨g', off', y, rfl, hy, hg', hc'⟩ := (h.ex (he.trans hei)).at_ (k := n - i) (by rw [HN.out]; omega)
          have cC := stillC (coefficient_c A1 a nw (i : Int) (by omega) wi.drew (hA.ex hei).drew)
          rw [Int.toNat_natCast] at cC
          obtain ⟨z, hz⟩ : ∃ z, nw[i]?.getD 0 = z := ⟨_, rfl⟩
          have hzb := allEl_bd Hne.out h97 i
          rw [hz] at cC hzb
          have hyb := allEl_at Hs.out hy
          have HT := Lib.hid (show gpT nw s n (i + 1) = gpT nw s n i + z * y by
            show gpT nw s n i + cf nw i * cf s (n - i) = _
            rw [cf_of hy, show cf nw i = z from hz])
          have hm := mul_bd (x := z) (y := y) hzb ⟨by omega, by omega⟩
          have hb := hgp i
          clear hgp hz hy
          obtain ⟨q, hq⟩ : ∃ q, gpT nw s n i = q := ⟨_, rfl⟩
          rw [hq] at HT hb ⊢
          clear hq
          have u1 : IntKind.i64.wrap ((n : Int) - (i : Int)) = ((n - i : Nat) : Int) := by rw [IntWalk.i64_in _ (by omega)]; omega
          have u2 : IntKind.i64.wrap (z * y) = z * y := IntWalk.i64_in _ (by omega)
          have u3 : IntKind.i64.wrap (q + z * y) = q + z * y := IntWalk.i64_in _ (by omega)
          have u5 : n - i < N := by omega
          go_wp2_with fail
          refine wp_region_still_lit (by kernel_rfl) (by kernel_rfl) ?_
          repeat still_step
          still_call cC
          repeat still_step
          refine wpStill_nil ?_
          go_wp2_with fail
          go_roundw
          case rel => exact ⟨i + 1, by omega, by rw [HT.out], by go_num, hei.drew⟩
          case measure => simp [intOf]; omega
        · have hie : i = L + 1 := by omega
          subst hie
          have hM := stillC (mod_c p (gpT nw s n (L + 1)) wi h2 h97)
          rw [HG.out] at hM
          obtain ⟨G, hG⟩ : ∃ G, bmGap p s n ⟨nw, bf, L, sh, la⟩ = G := ⟨_, rfl⟩
          have HGG := Lib.hid hG
          rw [hG] at hM
          have hG0 : 0 ≤ G := by rw [← hG, ← HG.out]; exact Int.emod_nonneg _ (by omega)
          have hG1 : G < p := by rw [← hG, ← HG.out]; exact Int.emod_lt_of_pos _ (by omega)
          have hb := hgp (L + 1)
          clear hG HG hgp
          obtain ⟨q, hq⟩ : ∃ q, gpT nw s n (L + 1) = q := ⟨_, rfl⟩
          rw [hq] at hM hb ⊢
          clear hq
          go_wp2_with fail
          refine hM.mono ?_
          rintro e w1 ⟨rfl, rfl⟩
          clear hM
          by_cases hz : G = 0
          · have hze : (G == 0) = true := by rw [hz]; rfl
            have HN2 := Lib.hid (show bmRun p s (n + 1) = ⟨nw, bf, L, sh + 1, la⟩ by rw [HS.out, bmStep, HGG.out, if_pos hz])
            clear hz
            go_wp2_with fail
            go_roundw
            case rel => exact ⟨n + 1, nw, bf, L, sh + 1, la, A1, B1, a, b, by omega, HN2, rfl, rfl, rfl, by go_num, rfl, by go_num, hA.ex hei, hB.ex hei, he.trans hei⟩
            case measure => simp [intOf]; omega
          · have hze : (G == 0) = false := by simp; exact hz
            have HS2 := Lib.hid (show bmRun p s (n + 1) = if 2 * L ≤ n then ⟨bmNext p s n ⟨nw, bf, L, sh, la⟩, nw, n + 1 - L, 1, G⟩ else ⟨bmNext p s n ⟨nw, bf, L, sh, la⟩, bf, L, sh + 1, la⟩ by rw [HS.out, bmStep, HGG.out, if_neg hz])
            have HNX := Lib.hid (show bmNext p s n ⟨nw, bf, L, sh, la⟩ = pAdd p nw (-G * invM p la) (List.replicate sh 0 ++ bf) by rw [bmNext, HGG.out])
            clear hz HS
            go_wp2_with fail
            refine (zeros_c sh (by omega) _).mono ?_
            rintro e w2 ⟨g, rfl, hgg, b2, x2⟩
            have hal := b2.al hgg (by simp; omega)
            rw [List.length_replicate] at hal
            have z2 := x2.size
            obtain ⟨v', w3, hrun, hal3, hx3, _⟩ := run_append_ints 38 38 Tryd.underlying38 w2 w1.heap.size _ _ hal z2 B1 b bf ((hB.ex hei).ex x2) (by simp; omega)
            rw [← append_two Tryd.underlying38 undC] at hrun
            have x3 : Ex w1 w3 := x2.exo hx3 (fun k e => by simp [Value.ownBlock] at e; omega)
            obtain ⟨S, hS⟩ : ∃ S, List.replicate sh 0 ++ bf = S := ⟨_, rfl⟩
            rw [hS] at hal3 HNX
            have HSe := Lib.hid (show allEl p S = true by
              rw [← hS]
              refine allEl_of fun j u hu => ?_
              rw [List.getElem?_append] at hu
              split at hu
              · rw [List.getElem?_replicate] at hu
                split at hu
                · injection hu with hu; subst hu; exact ⟨Int.le_refl _, by omega⟩
                · cases hu
              · exact allEl_at Hbe.out hu)
            have hSl : S.length ≤ 200 := by rw [← hS]; simp; omega
            obtain ⟨A4, c4, rfl, f4⟩ := hal3.form (by omega)
            clear hal hal3 hx3 hS b2
            go_wp2_with (at_builtin; refine wpList_append_run2 rfl _ _ _ _ rfl rfl rfl hrun ?_)
            clear hrun
            refine (inverse_c p la _ h2 h97 ⟨by omega, hl1⟩).mono ?_
            rintro e _ ⟨rfl, rfl⟩
            have hib := invM_bd la h2 (p := p)
            obtain ⟨I, hI⟩ : ∃ I, invM p la = I := ⟨_, rfl⟩
            rw [hI] at hib HNX ⊢
            clear hI
            have hm := mul_bd (x := G) (y := I) ⟨by omega, by omega⟩ ⟨by omega, by omega⟩
            have u1 : IntKind.i64.wrap (-G * I) = -G * I := IntWalk.i64_in _ (by rw [Int.neg_mul]; omega)
            have u2 : IntKind.i64.wrap (-(G * I)) = -(G * I) := IntWalk.i64_in _ (by omega)
            have cP := polyAddW_c p A1 A4 a c4 nw S (-G * I) w3 ((hA.ex hei).ex x3) f4.rd h2 h97 Hne.out HSe.out (by rw [Int.neg_mul]; omega)
            rw [← HNX.out] at cP
            obtain ⟨NX, hNX⟩ : ∃ NX, bmNext p s n ⟨nw, bf, L, sh, la⟩ = NX := ⟨_, rfl⟩
            rw [hNX] at cP HS2
            clear hNX HNX
            go_wp2_with fail
            refine cP.mono ?_
            rintro e w5 ⟨A5, c5, rfl, f5, x5⟩
            clear cP u1 u2
            have e5 := (he.trans hei).trans (x3.trans x5)
            by_cases hLL : 2 * L ≤ n
            · have HN2 := Lib.hid (HS2.out.trans (if_pos hLL))
              have e1 : 2 * (L : Int) ≤ (n : Int) := by omega
              have e2 : IntKind.i64.wrap (2 * (L : Int)) = 2 * (L : Int) := IntWalk.i64_in _ (by omega)
              have e3 : IntKind.i64.wrap ((n : Int) + 1 - (L : Int)) = ((n + 1 - L : Nat) : Int) := by rw [IntWalk.i64_in _ (by omega)]; omega
              clear HS2
              go_wp2_with fail
              go_roundw
              case rel => exact ⟨n + 1, NX, nw, n + 1 - L, 1, G, A5, A1, c5, a, by omega, HN2, rfl, rfl, rfl, rfl, rfl, by go_num, f5.rd, (hA.ex hei).ex (x3.trans x5), e5⟩
              case measure => simp [intOf]; omega
            · have HN2 := Lib.hid (HS2.out.trans (if_neg hLL))
              have e1 : ¬ (2 * (L : Int) ≤ (n : Int)) := by omega
              have e2 : IntKind.i64.wrap (2 * (L : Int)) = 2 * (L : Int) := IntWalk.i64_in _ (by omega)
              clear HS2
              go_wp2_with fail
              go_roundw
              case rel => exact ⟨n + 1, NX, bf, L, sh + 1, la, A5, B1, c5, b, by omega, HN2, rfl, rfl, rfl, by go_num, rfl, by go_num, f5.rd, (hB.ex hei).ex (x3.trans x5), e5⟩
              case measure => simp [intOf]; omega
    · have hnn : n = N := by omega
      subst hnn
      rw [HX.out] at Hx
      have Hx1 := Lib.hid (show X.now = nw by rw [Hx.out])
      have Hx2 := Lib.hid (show X.L = L by rw [Hx.out])
      have HA2 := Lib.hid hA
      clear Hx
      go_wp2_with fail
      go_ret2
      rw [Hx1.out, Hx2.out]
      exact ⟨A1, a, rfl, hA, he⟩
end Go.Proofs.YtmekhjnhcgmphaaDoor
