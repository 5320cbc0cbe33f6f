/- What the run of live11 asks of other functions: strings.Join by the kit's contract; the pure calls, run by the kernel, each in a theorem of its own. Printed in part by a program of this seat. -/
import Derived.Test.YtaajfbcopafkaaaGreatDoorAiSeat
import Derived.Test.YtaajfbcopafkaaaGreatDoorJoin
import Derived.Below
namespace Go.Proofs.YtaajfbcopafkaaaGreatDoor.Ai
open Go Go.RowKit
set_option maxRecDepth 100000
set_option linter.unusedVariables false
def strsOf : List (List AVal) → Option (List (List UInt8))
  | [] => some []
  | [.str s] :: l => (strsOf l).map (s :: ·)
  | _ :: _ => none
theorem strsOf_some : ∀ {l : List (List AVal)} {ss : List (List UInt8)}, strsOf l = some ss → l = ss.map fun s => [.str s]
  | [], ss, h => by cases h; rfl
  | x :: l, ss, h => by
    unfold strsOf at h
    split at h
    · rename_i e
      cases e
    · rename_i s l' e
      cases e
      obtain ⟨zs, hz, rfl⟩ := Option.map_eq_some_iff.1 h
      rw [strsOf_some hz]; rfl
    · cases h
/-- strings.Join over a part of an array, as a function. -/
def joinE (gt : Nat → Option Blk) : List AVal → Option AVal
  | [.sub b n lo len _, .str sep] => (match gt b with
    | some (.arr _ sz rows) => cond (Nat.beq sz 1 && Nat.beq rows.length n) (match strsOf ((rows.drop lo).take len) with
      | some ss => cond (Nat.ble (Lib.join ss sep).length 100000 && Nat.ble ss.length 100000) (some (.str (Lib.join ss sep))) none
      | none => none) none
    | _ => none)
  | _ => none
theorem joinE_sound {args : List AVal} {r : AVal} {sto : List Blk} (h : joinE (rd sto) args = some r) : CallS Cb 144 args sto r sto := by
  unfold joinE at h
  split at h
  · rename_i b n lo len cap sep
    split at h
    · rename_i t sz rows hb
      have hb : sto[b]? = some (.arr t sz rows) := hb
      cases hc : (Nat.beq sz 1 && Nat.beq rows.length n) with
      | false => rw [hc] at h; cases h
      | true =>
        rw [hc, cond_true] at h
        simp only [Bool.and_eq_true] at hc
        have hsz := Nat.eq_of_beq_eq_true hc.1
        have hn := Nat.eq_of_beq_eq_true hc.2
        subst hsz
        split at h
        · rename_i ss hss
          have hss := strsOf_some hss
          cases hj : (Nat.ble (Lib.join ss sep).length 100000 && Nat.ble ss.length 100000) with
          | false => rw [hj] at h; cases h
          | true =>
            rw [hj] at h
            cases h
            simp only [Bool.and_eq_true] at hj
            have hsl := Nat.le_of_ble_eq_true hj.2
            have hj := Nat.le_of_ble_eq_true hj.1
            intro E w vs hr hvl
            obtain ⟨hsize, hv⟩ := hvl
            have hlt0 : 0 < vs.size := by rw [hsize]; exact Nat.le_of_ble_eq_true rfl
            have hlt1 : 1 < vs.size := by rw [hsize]; exact Nat.le_of_ble_eq_true rfl
            obtain ⟨hal, hle, hs0⟩ := (hv 0 _ _ rfl (Array.getElem?_eq_getElem hlt0)).sub_inv
            obtain ⟨a, c, e0, ha, hlc, hln, hcc, _⟩ := hs0 (by rw [hr.cur, curOf_curB hb]; simp [curB, hn])
            obtain ⟨sb, e1, hsb⟩ := (hv 1 _ _ rfl (Array.getElem?_eq_getElem hlt1)).str_inv
            have evs : vs = #[.slice (some a) len c, .string sb] := two_args hsize (by rw [Array.getElem?_eq_getElem hlt0, e0]) (by rw [Array.getElem?_eq_getElem hlt1, e1])
            subst evs
            cases hr.blk b _ hb with
            | arr _ _ _ vals hg hn' hE hsv hl hm h0 hrsz hval =>
              have hlen : ((rows.drop lo).take len).length = len := by simp; omega
              rw [hss, List.length_map] at hlen
              have sbe : ∀ {x : ByteArray} {s : List UInt8}, x.data.toList = s → x = ⟨s.toArray⟩ := fun {x s} h => by subst h; rfl
              have key : Calls Cb.P 144 #[.slice (some a) len c, .string sb] w fun e w' => e = .returned (.string ⟨(Lib.join ss sep).toArray⟩) ∧ Below w.heap.size w w' := by
                by_cases hz : len = 0
                · subst hz
                  have hnil : ss = [] := List.eq_nil_of_length_eq_zero hlen
                  subst hnil
                  exact (Go.Proofs.Any.strings_Join_none jlays jextra (some a) c sb w).mono fun e w' ⟨h1, h2⟩ => ⟨h1, by subst h2; exact Below.refl _ _⟩
                · have ha := ha (by omega)
                  subst ha
                  have hx : (ss.map fun s => (⟨s.toArray⟩ : ByteArray)).map (·.data.toList) = ss := by rw [List.map_map]; simp [Function.comp_def]
                  have h1 := Go.Proofs.Any.strings_Join jlays jextra (E.ι b) (lo * E.sz b) c (ss.map fun s => (⟨s.toArray⟩ : ByteArray)) sb w (fun j x hjx => by
                    rw [List.getElem?_map] at hjx
                    cases hs : ss[j]? with
                    | none => rw [hs] at hjx; cases hjx
                    | some s =>
                      rw [hs] at hjx; cases hjx
                      have hjl : j < len := by rw [← hlen]; exact (List.getElem?_eq_some_iff.1 hs).1
                      have hrow : rows[lo + j]? = some [.str s] := by
                        have := congrArg (fun l => l[j]?) hss
                        simp only [List.getElem?_take, if_pos hjl, List.getElem?_drop, List.getElem?_map, hs] at this
                        exact this
                      obtain ⟨v, hv1, _, hv3⟩ := hval (lo + j) _ 0 _ hrow rfl
                      obtain ⟨x, rfl, hx⟩ := hv3.str_inv
                      rw [sbe hx] at hv1
                      rw [hE]
                      simp only [World.cell?, hg, Option.isSome_none, Bool.false_eq_true, if_false]
                      rw [Nat.mul_one] at hv1 ⊢
                      exact hv1) (Array.getElem?_eq_some_iff.1 hg).1 (by rw [List.length_map]; omega) (by rw [List.length_map, hlen]; exact hlc) (by rw [hx, hsb]; omega)
                  rw [hx, hsb, List.length_map, hlen] at h1
                  exact h1
              unfold Invokes
              rw [enter_run (P := Cb.P) Tryz.func144 (c := Tryz.f144.body.getD .skip) (by kernel_rfl) (by decide)]
              refine key.mono fun e w' ⟨he, bel⟩ => ?_
              obtain ⟨k1, k2⟩ := rel_fresh hr bel.os bel.tape bel.output bel.size bel.block
              exact ⟨_, he, _, k1, .pure (.str _ _ rfl), k2, fun _ h => .inl h, Nat.le_refl _⟩
        · cases h
    · cases h
  · cases h
/-! The known calls. -/
def known0 : PE := ⟨34, [.slc 1 [[.int .u8 1], [.int .u8 44]] none], .str [51, 48, 48]⟩
theorem known0_ok : CallS Cb known0.g known0.args [] known0.r [] := runV_sound (Ms := []) (n := 10000) Cb_mixed names_ok Cb_Y .nil (by rw [kx_eq]; kernel_rfl)
def known1 : PE := ⟨102, [.str [83, 69, 81, 85, 69, 78, 67, 69, 32, 123, 73, 78, 84, 69, 71, 69, 82, 32, 51, 48, 48, 32, 79, 73, 68, 32, 50, 46, 53, 46, 50, 57, 46, 51, 50, 46, 48, 32, 85, 84, 70, 56, 32, 34, 97, 34, 32, 85, 84, 67, 84, 73, 77, 69, 32, 49, 57, 57, 57, 45, 49, 50, 45, 51, 49, 84, 50, 51, 58, 53, 57, 58, 53, 57, 90, 32, 66, 73, 84, 83, 32, 35, 48, 53, 97, 48, 125], .str [32, 9, 10, 123, 125, 34, 91]], (.int .i64 8)⟩
theorem known1_ok : CallS Cb known1.g known1.args [] known1.r [] := runV_sound (Ms := []) (n := 10000) Cb_mixed names_ok Cb_Y .nil (by rw [kx_eq]; kernel_rfl)
def known2 : PE := ⟨102, [.str [73, 78, 84, 69, 71, 69, 82, 32, 51, 48, 48, 32, 79, 73, 68, 32, 50, 46, 53, 46, 50, 57, 46, 51, 50, 46, 48, 32, 85, 84, 70, 56, 32, 34, 97, 34, 32, 85, 84, 67, 84, 73, 77, 69, 32, 49, 57, 57, 57, 45, 49, 50, 45, 51, 49, 84, 50, 51, 58, 53, 57, 58, 53, 57, 90, 32, 66, 73, 84, 83, 32, 35, 48, 53, 97, 48, 125], .str [32, 9, 10, 123, 125, 34, 91]], (.int .i64 7)⟩
theorem known2_ok : CallS Cb known2.g known2.args [] known2.r [] := runV_sound (Ms := []) (n := 10000) Cb_mixed names_ok Cb_Y .nil (by rw [kx_eq]; kernel_rfl)
def known3 : PE := ⟨102, [.str [51, 48, 48, 32, 79, 73, 68, 32, 50, 46, 53, 46, 50, 57, 46, 51, 50, 46, 48, 32, 85, 84, 70, 56, 32, 34, 97, 34, 32, 85, 84, 67, 84, 73, 77, 69, 32, 49, 57, 57, 57, 45, 49, 50, 45, 51, 49, 84, 50, 51, 58, 53, 57, 58, 53, 57, 90, 32, 66, 73, 84, 83, 32, 35, 48, 53, 97, 48, 125], .str [32, 9, 10, 123, 125, 34, 91]], (.int .i64 3)⟩
theorem known3_ok : CallS Cb known3.g known3.args [] known3.r [] := runV_sound (Ms := []) (n := 10000) Cb_mixed names_ok Cb_Y .nil (by rw [kx_eq]; kernel_rfl)
def known4 : PE := ⟨102, [.str [79, 73, 68, 32, 50, 46, 53, 46, 50, 57, 46, 51, 50, 46, 48, 32, 85, 84, 70, 56, 32, 34, 97, 34, 32, 85, 84, 67, 84, 73, 77, 69, 32, 49, 57, 57, 57, 45, 49, 50, 45, 51, 49, 84, 50, 51, 58, 53, 57, 58, 53, 57, 90, 32, 66, 73, 84, 83, 32, 35, 48, 53, 97, 48, 125], .str [32, 9, 10, 123, 125, 34, 91]], (.int .i64 3)⟩
theorem known4_ok : CallS Cb known4.g known4.args [] known4.r [] := runV_sound (Ms := []) (n := 10000) Cb_mixed names_ok Cb_Y .nil (by rw [kx_eq]; kernel_rfl)
def known5 : PE := ⟨102, [.str [50, 46, 53, 46, 50, 57, 46, 51, 50, 46, 48, 32, 85, 84, 70, 56, 32, 34, 97, 34, 32, 85, 84, 67, 84, 73, 77, 69, 32, 49, 57, 57, 57, 45, 49, 50, 45, 51, 49, 84, 50, 51, 58, 53, 57, 58, 53, 57, 90, 32, 66, 73, 84, 83, 32, 35, 48, 53, 97, 48, 125], .str [32, 9, 10, 123, 125, 34, 91]], (.int .i64 11)⟩
theorem known5_ok : CallS Cb known5.g known5.args [] known5.r [] := runV_sound (Ms := []) (n := 10000) Cb_mixed names_ok Cb_Y .nil (by rw [kx_eq]; kernel_rfl)
def known6 : PE := ⟨215, [.str [50, 46, 53, 46, 50, 57, 46, 51, 50, 46, 48]], (.tup [(.agg [(.int .u8 5), (.int .u32 2), (.int .u32 5), (.int .u32 29), (.int .u32 32), (.int .u32 0), (.int .u32 0), (.int .u32 0), (.int .u32 0), (.int .u32 0), (.int .u32 0), (.int .u32 0), (.int .u32 0), (.int .u32 0), (.int .u32 0), (.int .u32 0), (.int .u32 0)]), (.int .i64 0)])⟩
theorem known6_ok : CallS Cb known6.g known6.args [] known6.r [] := runV_sound (Ms := []) (n := 10000) Cb_mixed names_ok Cb_Y .nil (by rw [kx_eq]; kernel_rfl)
def known7 : PE := ⟨102, [.str [85, 84, 70, 56, 32, 34, 97, 34, 32, 85, 84, 67, 84, 73, 77, 69, 32, 49, 57, 57, 57, 45, 49, 50, 45, 51, 49, 84, 50, 51, 58, 53, 57, 58, 53, 57, 90, 32, 66, 73, 84, 83, 32, 35, 48, 53, 97, 48, 125], .str [32, 9, 10, 123, 125, 34, 91]], (.int .i64 4)⟩
theorem known7_ok : CallS Cb known7.g known7.args [] known7.r [] := runV_sound (Ms := []) (n := 10000) Cb_mixed names_ok Cb_Y .nil (by rw [kx_eq]; kernel_rfl)
def known8 : PE := ⟨102, [.str [85, 84, 67, 84, 73, 77, 69, 32, 49, 57, 57, 57, 45, 49, 50, 45, 51, 49, 84, 50, 51, 58, 53, 57, 58, 53, 57, 90, 32, 66, 73, 84, 83, 32, 35, 48, 53, 97, 48, 125], .str [32, 9, 10, 123, 125, 34, 91]], (.int .i64 7)⟩
theorem known8_ok : CallS Cb known8.g known8.args [] known8.r [] := runV_sound (Ms := []) (n := 10000) Cb_mixed names_ok Cb_Y .nil (by rw [kx_eq]; kernel_rfl)
def known9 : PE := ⟨102, [.str [49, 57, 57, 57, 45, 49, 50, 45, 51, 49, 84, 50, 51, 58, 53, 57, 58, 53, 57, 90, 32, 66, 73, 84, 83, 32, 35, 48, 53, 97, 48, 125], .str [32, 9, 10, 123, 125, 34, 91]], (.int .i64 20)⟩
theorem known9_ok : CallS Cb known9.g known9.args [] known9.r [] := runV_sound (Ms := []) (n := 10000) Cb_mixed names_ok Cb_Y .nil (by rw [kx_eq]; kernel_rfl)
def known10 : PE := ⟨102, [.str [66, 73, 84, 83, 32, 35, 48, 53, 97, 48, 125], .str [32, 9, 10, 123, 125, 34, 91]], (.int .i64 4)⟩
theorem known10_ok : CallS Cb known10.g known10.args [] known10.r [] := runV_sound (Ms := []) (n := 10000) Cb_mixed names_ok Cb_Y .nil (by rw [kx_eq]; kernel_rfl)
def known11 : PE := ⟨102, [.str [35, 48, 53, 97, 48, 125], .str [32, 9, 10, 123, 125, 34, 91]], (.int .i64 5)⟩
theorem known11_ok : CallS Cb known11.g known11.args [] known11.r [] := runV_sound (Ms := []) (n := 10000) Cb_mixed names_ok Cb_Y .nil (by rw [kx_eq]; kernel_rfl)
def knowns : List PE := [known0, known1, known2, known3, known4, known5, known6, known7, known8, known9, known10, known11]
theorem knowns_ok : ∀ t, t ∈ knowns → CallS Cb t.g t.args [] t.r [] := by
  intro t ht
  simp only [knowns, List.mem_cons, List.not_mem_nil, or_false] at ht
  rcases ht with rfl | rfl | rfl | rfl | rfl | rfl | rfl | rfl | rfl | rfl | rfl | rfl
  · exact known0_ok
  · exact known1_ok
  · exact known2_ok
  · exact known3_ok
  · exact known4_ok
  · exact known5_ok
  · exact known6_ok
  · exact known7_ok
  · exact known8_ok
  · exact known9_ok
  · exact known10_ok
  · exact known11_ok
def xe2 (f : Nat) (args : List AVal) (gt : Nat → Option Blk) : Option AVal :=
  match xe f args gt with
  | some r => some r
  | none => cond (Nat.beq f 144) (joinE gt args) (pureE gt f args knowns)
noncomputable def Cb2 : Ctx := { Cb with XE := xe2 }
noncomputable def Kx2 : CB := ⟨Tryz.prog, globs, tabI Tryz.prog, tabJ Tryz.prog, xe2⟩
theorem xe2_ok {f : FuncId} {args : List AVal} {r : AVal} {sto : List Blk} (h : xe2 f args (rd sto) = some r) : CallS Cb f args sto r sto := by
  unfold xe2 at h
  split at h
  · rename_i r' hx
    cases h
    exact x_calls (xe_calls hx)
  · cases hf : Nat.beq f 144 with
    | true => rw [hf, cond_true] at h; rw [Nat.eq_of_beq_eq_true hf]; exact joinE_sound h
    | false => rw [hf, cond_false] at h; exact pureE_sound knowns_ok h
theorem names_ok2 : NamesOK Cb2 := ⟨names_ok.1, fun f args r sto h => CallS.withXE (C := Cb) (XE := xe2) (xe2_ok h)⟩
end Go.Proofs.YtaajfbcopafkaaaGreatDoor.Ai
