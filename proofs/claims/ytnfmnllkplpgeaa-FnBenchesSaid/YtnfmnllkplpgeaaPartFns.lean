/- PartsOf. -/
import Derived.Test.YtnfmnllkplpgeaaParts
import Derived.Test.YtnfmnllkplpgeaaOwn2
import Derived.Test.YtnfmnllkplpgeaaCopy
import Derived.Test.YtnfmnllkplpgeaaPlan
set_option linter.unusedVariables false
namespace Go.Proofs.Ytnfmnllkplpgeaa
open Go.RowKit

set_option maxHeartbeats 4000000 in
theorem partsOf_i (A : Option Addr) (c n : Nat) (rs : List (List Int)) (wk : Int) (w : World) (h : Rd2 w 0 w.heap.size A n rs) (hp : planB rs = true) :
    Calls Try.prog 30 #[.slice A n c, .int .i64 wk] w (RetR 29 2 w (pAll wk rs n)) := by
  have HN := Lib.hid h.1
  have H := Lib.hid h
  have P := planB_t hp
  have HP := Lib.hid P.2.2
  have n6 : n ≤ 6 := by have := P.2.1; rw [HN.out] at this; exact this
  clear P h hp
  have O0 := Lib.hid (own2_empty w 29 2)
  have b0 := Lib.hid ((Below.refl w.heap.size w).alloc (Nat.le_refl _) (.cells #[] 29))
  go_enter Try.func30, Try.ntmps30
  go_wp2
  generalize w.alloc (.cells #[] 29) = w0 at O0 b0 ⊢
  go_loopw [13, 5] (fun i v wr => ∃ b : Nat, b ≤ n ∧ i = .int .i64 b ∧ Hid (Own2 wr w.heap.size wr.heap.size 29 2 v (pAll wk rs b).length (pAll wk rs b)) ∧ Hid (Below w.heap.size w wr)) (fun i _ _ => n - (intOf i).toNat)
  case atStart => exact ⟨0, Nat.zero_le _, rfl, O0, b0⟩
  case round =>
    obtain ⟨b, hb0, rfl, hv, hb⟩ := hrel
    by_cases hlt : b < n
    · obtain ⟨r, hx, hxm⟩ := getD_of (l := rs) (i := b) (by rw [HN.out]; exact hlt)
      have H40 := Lib.hid (HP.out r hxm).1
      have HPA : Hid (pAll wk rs (b + 1) = pRow b wk r (pAll wk rs b) 40) := Lib.hid (by rw [pAll, getD_is hx])
      have HX := Lib.hid hx
      have la := pAll_len wk rs b
      obtain ⟨bl, o, rfl, hbB, hc⟩ := H.out.at_ (by omega)
      obtain ⟨Ai, ci, c0w, hR, hcap⟩ := hc b r hx
      rw [H40.out] at c0w hR
      obtain ⟨b', o', rfl, hbB', hc'⟩ := hR.1.ints (by omega)
      have C0 := Lib.hid c0w
      have HC := Lib.hid hc'
      have c0 : wr.cell? ⟨bl, o + b, none⟩ = some (.slice (some ⟨b', o', none⟩) 40 ci) := (hb.out.cell (p := ⟨bl, o + b, none⟩) hbB).trans C0.out
      clear hc hx hxm hR hcap c0w hc'
      obtain ⟨wo, rfl⟩ : ∃ wo : World, wo = wr := ⟨_, rfl⟩
      go_wp2
      clear c0
      go_loopw [20, 5] (fun i v wq => ∃ k : Nat, k ≤ 40 ∧ i = .int .i64 k ∧ Hid (Own2 wq w.heap.size wq.heap.size 29 2 v (pRow b wk r (pAll wk rs b) k).length (pRow b wk r (pAll wk rs b) k)) ∧ Hid (Below w.heap.size w wq)) (fun i _ _ => 40 - (intOf i).toNat)
      case atStart => exact ⟨0, Nat.zero_le _, rfl, hv, hb⟩
      case round =>
        obtain ⟨k, hk, rfl, hq, hbq⟩ := hrel
        have hsz := hbq.out.size
        obtain ⟨A5, c5, rfl⟩ := own2_val hq.out
        by_cases hkt : k < 40
        · obtain ⟨z, hz, _⟩ := getD_of (l := r) (i := k) (by rw [H40.out]; exact hkt)
          have c0 : wr.cell? ⟨bl, o + b, none⟩ = some (.slice (some ⟨b', o', none⟩) 40 ci) := (hbq.out.cell (p := ⟨bl, o + b, none⟩) hbB).trans C0.out
          have d0 : wr.cell? ⟨b', o' + k, none⟩ = some (.int .i64 z) := (hbq.out.cell (p := ⟨b', o' + k, none⟩) hbB').trans (HC.out k z hz)
          have HZ := Lib.hid hz
          clear hz
          have ll : (pRow b wk r (pAll wk rs b) k).length ≤ 1099511627776 := by have := pRow_len b wk r (pAll wk rs b) k; omega
          by_cases hw : z = wk
          · subst hw
            by_cases h0 : k = 0
            · have HS := Lib.hid (pStep_new (b := b) (ps := pRow b z r (pAll z rs b) k) HZ.out rfl (by omega))
              have k0 : ¬ 0 < k := by omega
              clear h0
              go_wp2_with (at_builtin; refine app2 rfl (.tmp 25) (.tmp 29) rfl w.heap.size (.slice A5 (pRow b z r (pAll z rs b) k).length c5) (pRow b z r (pAll z rs b) k) [(b : Int), (k : Int), 1] _ rfl rfl hq.out rfl hsz ll (by simp [maxLen]) ?_; intro v1 w1 ho1 hb1)
              have V1 : Hid (Own2 w1 w.heap.size w1.heap.size 29 2 v1 (pRow b z r (pAll z rs b) (k + 1)).length (pRow b z r (pAll z rs b) (k + 1))) := Lib.hid (by rw [pRow, HS.out]; exact ho1)
              have b1 := Lib.hid (hbq.out.trans hb1)
              clear ho1 hb1
              go_roundw
              case rel => exact ⟨k + 1, by omega, by go_num, V1, b1⟩
              case measure => simp [intOf]; omega
            · obtain ⟨y, hy, _⟩ := getD_of (l := r) (i := k - 1) (by rw [H40.out]; omega)
              have d1 : wr.cell? ⟨b', o' + (k - 1), none⟩ = some (.int .i64 y) := (hbq.out.cell (p := ⟨b', o' + (k - 1), none⟩) hbB').trans (HC.out _ y hy)
              have HY := Lib.hid hy
              clear hy
              have k0 : 0 < k := by omega
              clear h0
              by_cases hyw : y = z
              · subst hyw
                have HS := Lib.hid (pStep_more (b := b) (ps := pRow b y r (pAll y rs b) k) HZ.out rfl k0 HY.out rfl)
                obtain ⟨qs, y2, z2, e, hz1, hyz⟩ := (pInv y rs b r hk).last k0 (getD_is HY.out)
                have hq2 := hq.out
                rw [e] at hq2
                have hS2 := HS.out
                rw [e, bump_snoc] at hS2
                have HS2 := Lib.hid hS2
                rw [show (qs ++ [[(b : Int), (y2 : Int), (z2 : Int)]]).length = qs.length + 1 by simp] at hq2
                rw [show (pRow b y r (pAll y rs b) k).length = qs.length + 1 by rw [e]; simp]
                have lq : qs.length ≤ 1000 := by
                  have h1 := pRow_len b y r (pAll y rs b) k
                  rw [e] at h1
                  simp at h1
                  omega
                obtain ⟨g, gi, ci5, rfl, k0c, kc, kf, hgi, hput⟩ := hq2.store (i := qs.length) (j := 2) (r := [(b : Int), (y2 : Int), (z2 : Int)]) (by decide) (by simp) (by simp)
                have k0d : wr.cell? ⟨g, qs.length, none⟩ = some (.slice (some ⟨gi, 0, none⟩) 3 ci5) := k0c
                have kc2 : wr.cell? ⟨gi, 2, none⟩ = some (.int .i64 z2) := kc 2 _ rfl
                have HL : Hid ((pRow b y r (pAll y rs b) (k + 1)).length = qs.length + 1) := Lib.hid (by rw [pRow, e, hS2]; simp)
                have V1 : Hid (Own2 (wr.setCell ⟨gi, 2, none⟩ (.int .i64 (z2 + 1))) w.heap.size (wr.setCell ⟨gi, 2, none⟩ (.int .i64 (z2 + 1))).heap.size 29 2 (.slice (some ⟨g, 0, none⟩) (qs.length + 1) c5) (pRow b y r (pAll y rs b) (k + 1)).length (pRow b y r (pAll y rs b) (k + 1))) := Lib.hid (by rw [HL.out, pRow, e, hS2]; exact (hput _).more (by simp))
                have b1 := Lib.hid (hbq.out.setCell (p := ⟨gi, 2, none⟩) hgi (.int .i64 (z2 + 1)))
                clear k0c kc hput hq2 hq e hS2
                go_wp2
                go_roundw
                case rel => exact ⟨k + 1, by omega, by go_num, V1, b1⟩
                case measure => simp [intOf]; omega
              · have HS := Lib.hid (pStep_new (b := b) (ps := pRow b z r (pAll z rs b) k) HZ.out rfl (by rw [getD_is HY.out]; exact fun q => hyw q.2))
                have q : (y != z) = true := by simpa using hyw
                have q' : (y == z) = false := by simpa using hyw
                clear hyw
                go_wp2_with (at_builtin; refine app2 rfl (.tmp 25) (.tmp 29) rfl w.heap.size (.slice A5 (pRow b z r (pAll z rs b) k).length c5) (pRow b z r (pAll z rs b) k) [(b : Int), (k : Int), 1] _ rfl rfl hq.out rfl hsz ll (by simp [maxLen]) ?_; intro v1 w1 ho1 hb1)
                have V1 : Hid (Own2 w1 w.heap.size w1.heap.size 29 2 v1 (pRow b z r (pAll z rs b) (k + 1)).length (pRow b z r (pAll z rs b) (k + 1))) := Lib.hid (by rw [pRow, HS.out]; exact ho1)
                have b1 := Lib.hid (hbq.out.trans hb1)
                clear ho1 hb1
                go_roundw
                case rel => exact ⟨k + 1, by omega, by go_num, V1, b1⟩
                case measure => simp [intOf]; omega
          · have HS := Lib.hid (pStep_no (b := b) (ps := pRow b wk r (pAll wk rs b) k) HZ.out hw)
            have q : (z != wk) = true := by simpa using hw
            have q' : (z == wk) = false := by simpa using hw
            have V1 : Hid (Own2 wr w.heap.size wr.heap.size 29 2 (.slice A5 (pRow b wk r (pAll wk rs b) k).length c5) (pRow b wk r (pAll wk rs b) (k + 1)).length (pRow b wk r (pAll wk rs b) (k + 1))) := Lib.hid (by rw [pRow, HS.out]; exact hq.out)
            clear hw
            go_wp2
            go_roundw
            case rel => exact ⟨k + 1, by omega, by go_num, V1, hbq⟩
            case measure => simp [intOf]; omega
        · obtain rfl : k = 40 := by omega
          have V1 : Hid (Own2 wr w.heap.size wr.heap.size 29 2 (.slice A5 (pRow b wk r (pAll wk rs b) 40).length c5) (pAll wk rs (b + 1)).length (pAll wk rs (b + 1))) := Lib.hid (by rw [HPA.out]; exact hq.out)
          have c0 : wr.cell? ⟨bl, o + b, none⟩ = some (.slice (some ⟨b', o', none⟩) 40 ci) := (hbq.out.cell (p := ⟨bl, o + b, none⟩) hbB).trans C0.out
          go_wp2
          go_roundw
          case rel => exact ⟨b + 1, by omega, by go_num, V1, hbq⟩
          case measure => simp [intOf]; omega
    · obtain rfl : b = n := by omega
      go_wp2
      go_ret
      exact ⟨_, rfl, hv.out, hb.out⟩
set_option maxHeartbeats 2000000 in
theorem PartsOf_i (A : Option Addr) (c n : Nat) (rs : List (List Int)) (wk : Int) (w : World) (h : Rd2 w 0 w.heap.size A n rs) (hm : n ≤ maxLen) (hr : ∀ r ∈ rs, r.length ≤ maxLen) :
    Calls Try.prog 8 #[.slice A n c, .int .i64 wk] w (RetSS 29 2 w (PartsOf_L rs wk).1 (PartsOf_L rs wk).2) := by
  have HV := Lib.hid (ValidPlan_i A c n _ _ rs w h hm hr)
  have HN := Lib.hid h.1
  have H := Lib.hid h
  cases hp : planB rs
  · rw [show PartsOf_L rs wk = ([], 1) by simp [PartsOf_L, hp]]
    go_enter Try.func8, Try.ntmps8
    go_wp2_with fail
    refine HV.out.mono ?_
    rw [hp]
    rintro r w' ⟨rfl, rfl⟩
    go_wp2
    go_ret2
    exact ret_SS rfl rfl (own2_nil _ _ _ _ _) (Below.refl _ _)
  cases g : inB wk 1 8
  · rw [show PartsOf_L rs wk = ([], 2) by simp [PartsOf_L, hp, g]]
    go_enter Try.func8, Try.ntmps8
    go_wp2_with fail
    refine HV.out.mono ?_
    rw [hp]
    rintro r w' ⟨rfl, rfl⟩
    go_wp2_with ((go_at_call 26; refine (isWork_any _ _).mono ?_; rintro e w' ⟨rfl, rfl⟩))
    go_ret2
    exact ret_SS rfl rfl (own2_nil _ _ _ _ _) (Below.refl _ _)
  · have P := planB_t hp
    have n6 : n ≤ 6 := by have := P.2.1; rw [HN.out] at this; exact this
    have pl := pAll_len wk rs n
    have HF := Lib.hid (partsOf_i A c n rs wk w H.out hp)
    by_cases h0 : (pAll wk rs n).length = 0
    · rw [show PartsOf_L rs wk = ([], 3) by simp only [PartsOf_L, hp, g, HN.out, h0, if_true]]
      have hpn := hp
      have HH0 := Lib.hid h0
      clear P h hm hr h0
      go_enter Try.func8, Try.ntmps8
      go_wp2_with fail
      refine HV.out.mono ?_
      rw [hpn]
      rintro r w' ⟨rfl, rfl⟩
      clear HV hp hpn
      go_wp2_with ((go_at_call 26; refine (isWork_any _ _).mono ?_; rintro e w' ⟨rfl, rfl⟩))
      refine HF.out.mono ?_
      rintro r w1 ⟨v, rfl, ho, hb⟩
      rw [HH0.out] at ho
      obtain ⟨A1, c1, rfl⟩ := own2_val ho
      have b1 := Lib.hid hb
      clear ho hb HF
      go_wp2
      go_ret2
      exact ret_SS rfl rfl (own2_nil _ _ _ _ _) b1.out
    · rw [show PartsOf_L rs wk = (pAll wk rs n, 0) by simp only [PartsOf_L, hp, g, HN.out, if_true, if_neg h0]]
      have hpn := hp
      obtain ⟨m, hm0⟩ : ∃ m, (pAll wk rs n).length = m := ⟨_, rfl⟩
      have HM0 := Lib.hid hm0
      have q : ((m : Int) == 0) = false := by rw [Bool.eq_false_iff]; simp; omega
      have q' : ((m : Int) != 0) = true := by simp; omega
      have m1 : m ≤ 240 := by omega
      clear P h hm hr h0 hm0
      go_enter Try.func8, Try.ntmps8
      go_wp2_with fail
      refine HV.out.mono ?_
      rw [hpn]
      rintro r w' ⟨rfl, rfl⟩
      clear HV hp hpn
      go_wp2_with ((go_at_call 26; refine (isWork_any _ _).mono ?_; rintro e w' ⟨rfl, rfl⟩))
      refine HF.out.mono ?_
      rintro r w1 ⟨v, rfl, ho, hb⟩
      rw [HM0.out] at ho
      obtain ⟨A1, c1, rfl⟩ := own2_val ho
      have HO := Lib.hid ho
      have b1 := Lib.hid hb
      clear ho hb HF
      go_wp2
      go_ret2
      exact ret_SS rfl rfl (by rw [HM0.out]; exact HO.out) b1.out
end Go.Proofs.Ytnfmnllkplpgeaa
