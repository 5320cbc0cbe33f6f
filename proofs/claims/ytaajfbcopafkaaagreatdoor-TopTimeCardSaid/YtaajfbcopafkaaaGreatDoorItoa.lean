/- strconv.Itoa: the kit's contract, laid over the seat's program. Printed by a program of this seat. -/
import Derived.Test.YtaajfbcopafkaaaGreatDoorAiSeat
import Derived.Below
import Derived.Lib.AppendIntMem
import Derived.Shelf.Strconv.Itoa3
import Derived.KernelRfl
namespace Go.Proofs.YtaajfbcopafkaaaGreatDoor.Ai
open Go Go.Proofs Go.Shelf Go.RowKit
set_option maxRecDepth 100000
def iren : Ren := ⟨fun | 129 => 180 | 171 => 52 | 243 => 91 | 246 => 134 | 283 => 188 | 284 => 189 | 285 => 190 | 286 => 191 | 317 => 230 | 318 => 231 | 319 => 232 | 320 => 233 | 337 => 253 | 338 => 254 | n => n,
  fun | 0 => 0 | 2 => 2 | 3 => 3 | 4 => 4 | 5 => 5 | 9 => 9 | 20 => 20 | 37 => 32 | 46 => 122 | 51 => 29 | 53 => 121 | 171 => 261 | 173 => 263 | 212 => 299 | 213 => 300 | 232 => 330 | 233 => 331 | n => n,
  fun | 17 => 5 | 18 => 7 | 19 => 8 | n => n⟩
theorem ilays : LaysM.n171 Tryz.prog iren where
  mixed := by kernel_rfl
  f129 := Tryz.func180.trans (by kernel_rfl)
  f171 := Tryz.func52.trans (by kernel_rfl)
  f243 := Tryz.func91.trans (by kernel_rfl)
  f246 := Tryz.func134.trans (by kernel_rfl)
  f283 := Tryz.func188.trans (by kernel_rfl)
  f284 := Tryz.func189.trans (by kernel_rfl)
  f285 := Tryz.func190.trans (by kernel_rfl)
  f286 := Tryz.func191.trans (by kernel_rfl)
  f317 := Tryz.func230.trans (by kernel_rfl)
  f318 := Tryz.func231.trans (by kernel_rfl)
  f319 := Tryz.func232.trans (by kernel_rfl)
  f320 := Tryz.func233.trans (by kernel_rfl)
  f337 := Tryz.func253.trans (by kernel_rfl)
  f338 := Tryz.func254.trans (by kernel_rfl)
  t0 := Tryz.underlying0
  a0 := Tryz.isAgg0
  z0 := Tryz.sizeOf0
  v0 := Tryz.zeroValue0
  t2 := Tryz.underlying2
  a2 := Tryz.isAgg2
  z2 := Tryz.sizeOf2
  v2 := Tryz.zeroValue2
  t3 := Tryz.underlying3
  a3 := Tryz.isAgg3
  z3 := Tryz.sizeOf3
  v3 := Tryz.zeroValue3
  t4 := Tryz.underlying4
  a4 := Tryz.isAgg4
  z4 := Tryz.sizeOf4
  v4 := Tryz.zeroValue4
  t5 := Tryz.underlying5
  a5 := Tryz.isAgg5
  z5 := Tryz.sizeOf5
  v5 := Tryz.zeroValue5
  t9 := Tryz.underlying9
  a9 := Tryz.isAgg9
  z9 := Tryz.sizeOf9
  v9 := Tryz.zeroValue9
  t20 := Tryz.underlying20
  a20 := Tryz.isAgg20
  z20 := Tryz.sizeOf20
  v20 := Tryz.zeroValue20
  t37 := Tryz.underlying32
  a37 := Tryz.isAgg32
  z37 := Tryz.sizeOf32
  v37 := Tryz.zeroValue32
  t46 := Tryz.underlying122
  a46 := Tryz.isAgg122
  z46 := Tryz.sizeOf122
  v46 := Tryz.zeroValue122
  t51 := Tryz.underlying29
  a51 := Tryz.isAgg29
  z51 := Tryz.sizeOf29
  v51 := Tryz.zeroValue29
  t53 := Tryz.underlying121
  a53 := Tryz.isAgg121
  z53 := Tryz.sizeOf121
  v53 := Tryz.zeroValue121
  t171 := Tryz.underlying261
  a171 := Tryz.isAgg261
  z171 := Tryz.sizeOf261
  v171 := Tryz.zeroValue261
  t173 := Tryz.underlying263
  a173 := Tryz.isAgg263
  z173 := Tryz.sizeOf263
  v173 := Tryz.zeroValue263
  t212 := Tryz.underlying299
  a212 := Tryz.isAgg299
  z212 := Tryz.sizeOf299
  v212 := Tryz.zeroValue299
  t213 := Tryz.underlying300
  a213 := Tryz.isAgg300
  z213 := Tryz.sizeOf300
  t232 := Tryz.underlying330
  a232 := Tryz.isAgg330
  z232 := Tryz.sizeOf330
  v232 := Tryz.zeroValue330
  t233 := Tryz.underlying331
  a233 := Tryz.isAgg331
  z233 := Tryz.sizeOf331
  v233 := Tryz.zeroValue331
  g17 := by kernel_rfl
  m17 := by kernel_rfl
  g18 := by kernel_rfl
  m18 := by kernel_rfl
  g19 := by kernel_rfl
  m19 := by kernel_rfl
  i0 := by kernel_rfl
  i2 := by kernel_rfl
  i3 := by kernel_rfl
  i4 := by kernel_rfl
  i5 := by kernel_rfl
  i9 := by kernel_rfl
  i20 := by kernel_rfl
  i37 := by kernel_rfl
  i46 := by kernel_rfl
  i51 := by kernel_rfl
  i53 := by kernel_rfl
  i171 := by kernel_rfl
  i173 := by kernel_rfl
  i212 := by kernel_rfl
  i232 := by kernel_rfl
  i233 := by kernel_rfl
theorem itoa_calls {n : Int} (h0 : 0 ≤ n) (h1 : n ≤ 1000000) {sto : List Blk} : CallS Cb 52 [.int .i64 n] sto (.str (Lib.itoa n)) sto := by
  intro E w vs hr hvl
  obtain ⟨hsz, hv⟩ := hvl
  have hlt0 : 0 < vs.size := by rw [hsz]; exact Nat.le_of_ble_eq_true rfl
  have hv0 := (hv 0 _ _ rfl (Array.getElem?_eq_getElem hlt0)).int_inv
  have evs : vs = #[.int .i64 n] := by
    apply Array.ext
    · exact hsz
    · intro i h1 h2
      have : i = 0 := by simp at h2; exact h2
      subst this
      simpa using hv0
  subst evs
  obtain ⟨_, t, fr, hg⟩ := (hr.glob 5).2 _ rfl
  have htab : Lib.TabIs Tryz.prog w "internal/strconv.uint64pow10" .u64 Lib.pow10Tab := by
    unfold Lib.TabIs World.var?
    rw [show Tryz.prog.globalNamed "internal/strconv.uint64pow10" = some 5 by kernel_rfl, Option.bind_some, hg]
  have key := Go.Proofs.Any.strconv_Itoa ilays n (by omega) (by omega) w htab
  unfold Invokes
  rw [enter_run (P := Cb.P) Tryz.func52 (c := Tryz.f52.body.getD .skip) (by kernel_rfl) (by decide)]
  refine key.mono fun e w' ⟨he, k, os, hw⟩ => ?_
  have bel : Below w.heap.size w w' := by subst hw; exact Lib.below_grow _ _ (Nat.le_refl _) _ _
  obtain ⟨k1, k2⟩ := rel_fresh hr bel.os bel.tape bel.output bel.size bel.block
  exact ⟨_, he, _, k1, .pure (.str _ _ rfl), k2, fun _ h => .inl h, Nat.le_refl _⟩
theorem itoa_call (n : Int) (h : 0 ≤ n ∧ n ≤ 1000000) : CallF Cx 52 [.int .i64 n] [] (.str (Lib.itoa n)) [] := ⟨0, rfl, rfl, itoa_calls h.1 h.2⟩
instance {n : Int} : Con Sx0 52 [.int .i64 n] (0 ≤ n ∧ n ≤ 1000000) (.str (Lib.itoa n)) := con (itoa_call n)
end Go.Proofs.YtaajfbcopafkaaaGreatDoor.Ai
