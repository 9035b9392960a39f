/- types.Subst: a type whose type parameters are replaced, in memory of its own. -/
import Derived.Test.YtanhdklaponekaaSubstP
import Derived.Test.YtanhdklaponekaaEqualFunc
import Derived.Deep.DeepCutAuto
namespace Go.Proofs.Ytanhdklaponekaa
open Go Go.RowKit

set_option maxHeartbeats 1000000 in
theorem subst_param {nm : ByteArray} {f : Bool} {ns : List ByteArray} {ms : List Bool} {ks : List T} {m : Nat} {us : List T} {cs : List Value} {w : World} {S S' : Nat → Prop} {va : Value}
    (hm : m < us.length) (hr : TyR w S (.mk 9 nm m f ns ms ks) cs) (ha : RowT w S' va us) (hok : T.okL us) (hS' : Old S' w) :
    Calls Try.prog 15 #[.agg cs.toArray, va] w (TRes w us[m]) := by
  obtain ⟨A1, c1, A2, c2, A3, c3, rfl, -⟩ := hr.forms
  obtain ⟨b, o, c, B1, d1, B2, d2, B3, d3, rfl, hSb, ⟨g0, g1, g2, g3, g4, g5, g6⟩, hkr⟩ := ha.at_ hm
  have hob : b < w.heap.size := hS' b hSb
  have hlen : us.length ≤ 9223372036854775807 := by obtain ⟨_, _, _, h⟩ := ha.form; exact h
  have HK := Lib.hid hkr
  have HS' := Lib.hid hS'
  have HO := Lib.hid hok
  clear hkr hS' hok hr ha hSb
  simp only [T.kd, T.nm, T.n, T.fl, T.ns, T.ms, T.ks]
  have hm0 : (0 : Int) ≤ (m : Int) := by omega
  have hm1 : (m : Int) < (us.length : Int) := by omega
  go_enter Try.func15, Try.ntmps15
  go_wp2_with fail
  refine (own_calls (t := us[m]) (S := S') (okL_at HO.out hm) ((HK.out.al HS'.out _).al (HS'.out.alloc _) _) ((HS'.out.alloc _).alloc _)).mono ?_
  rintro e w1 h1
  obtain ⟨E1, e1, E2, e2, E3, e3, rfl, ht1, hb1⟩ := h1.forms
  have HT1 := Lib.hid ht1
  have hz1 := hb1.size
  simp at hz1
  have hB2 : Blk w1 (w.heap.size + 1) 26 #[.int .i64 0, .string ⟨#[]⟩, .int .i64 0, .bool false, .slice none 0 0, .slice none 0 0, .slice none 0 0] := by
    refine Blk.below ?_ hb1 (by simp)
    simpa using Blk.new (w.alloc _) _ _
  obtain ⟨n0, n1, n2, n3, n4, n5, n6, nf⟩ := hB2.cells7
  have hbw : Below w.heap.size w w1 := (((Below.refl _ _).alloc (Nat.le_refl _) _).alloc (by simp) _).trans (hb1.mono (by simp; omega))
  clear h1 ht1 hb1 hB2
  go_wp2_with fail
  refine bodyPost_ret (v := .agg #[.int .i64 us[m].kd, .string us[m].nm, .int .i64 us[m].n, .bool us[m].fl, .slice E1 us[m].ns.length e1, .slice E2 us[m].ms.length e2, .slice E3 us[m].ks.length e3]) (by simp [results, Try.results15, go_sem, n0, n1, n2, n3, n4, n5, n6]) rfl ⟨_, rfl, ?_, ?_⟩
  · refine HT1.out.keep ?_ (fun b hb => ?_)
    · have hne : ¬ (New ((w.alloc (.cells #[.int .i64 9, .string nm, .int .i64 m, .bool f, .slice A1 ns.length c1, .slice A2 ms.length c2, .slice A3 ks.length c3] 26)).alloc (.cells #[.int .i64 0, .string ⟨#[]⟩, .int .i64 0, .bool false, .slice none 0 0, .slice none 0 0, .slice none 0 0] 26)) w1) (w.heap.size + 1) := by
        intro h; have := h.1; simp at this; omega
      repeat (refine SameOn.set_ ?_ hne _)
      exact SameOn.refl _ _
    · have h1 := hb.1; have h2 := hb.2; simp at h1; exact ⟨by omega, by simpa using h2⟩
  · repeat (refine Below.setCell ?_ (by simp) _)
    exact hbw
end Go.Proofs.Ytanhdklaponekaa
