/- The examples with which the statements about glossaries begin, in plain Lean. -/
import Derived.Test.YtneanannicacnaaDoorFindD
import Derived.Test.YtneanannicacnaaDoorAddT2
namespace Go.Proofs.YtneanannicacnaaDoor
open Go.RowKit Go.Han
set_option maxRecDepth 100000

def sPoint : ByteArray := ⟨#[112, 111, 105, 110, 116]⟩
def sOf : ByteArray := ⟨#[111, 102]⟩
def sOrder : ByteArray := ⟨#[111, 114, 100, 101, 114]⟩
def sNoun : ByteArray := ⟨#[110, 111, 117, 110]⟩
def gA (p q : Option Addr) : Term := ⟨1, 0, 0, 1, ⟨p, 1, [sPoint]⟩, ⟨q, 1, [⟨#[112, 117, 110, 107, 116]⟩]⟩, sNoun, false⟩
def gB (p q : Option Addr) : Term := ⟨2, 0, 0, 1, ⟨p, 3, [sPoint, sOf, sOrder]⟩, ⟨q, 1, [⟨#[97, 110, 116, 114, 97, 103]⟩]⟩, sNoun, false⟩
def gC (p q : Option Addr) : Term := ⟨3, 10, 20, 1, ⟨p, 1, [sPoint]⟩, ⟨q, 1, [⟨#[115, 116, 101, 108, 108, 101]⟩]⟩, sNoun, false⟩
def gG (p : Option Addr) : Term := ⟨4, 30, 30, 1, ⟨p, 1, [sPoint]⟩, ⟨none, 0, []⟩, ⟨#[]⟩, true⟩
def gP (p q : Option Addr) : Term := ⟨4, 30, 30, 1, ⟨p, 1, [sPoint]⟩, ⟨q, 1, [⟨#[120]⟩]⟩, ⟨#[]⟩, true⟩
def gL (a b c d e f g : Option Addr) : List Term := [gA a b, gB c d, gC e f, gG g]
variable (a b c d e f g : Option Addr)
theorem ex_check : checkT (gL a b c d e f g) = 0 := by kernel_rfl
theorem ex_checkP : checkT [gP a b] = 270 := by kernel_rfl
theorem ex_st1 : standE (gL a b c d e f g) 1 15 19 = 0 ∧ standT (gL a b c d e f g) 1 15 19 = [gA a b, gB c d] := ⟨by kernel_rfl, by kernel_rfl⟩
theorem ex_st2 : standE (gL a b c d e f g) 1 15 20 = 0 ∧ standT (gL a b c d e f g) 1 15 20 = [gB c d, gC e f] := ⟨by kernel_rfl, by kernel_rfl⟩
theorem ex_st3 : standE (gL a b c d e f g) 1 30 30 = 0 ∧ standT (gL a b c d e f g) 1 30 30 = [gB c d] := ⟨by kernel_rfl, by kernel_rfl⟩
theorem ex_st4 : standE [] 0 0 0 = 0 ∧ standE [] 32 0 0 = 1 := ⟨by kernel_rfl, by kernel_rfl⟩
theorem ex_f1 : findV (gL a b c d e f g) 1 [⟨#[97]⟩, sPoint, sOf, sOrder] 1 15 20 = .tuple #[.int .i64 2, .bool true, .int .i64 0] := by kernel_rfl
theorem ex_f2 : findV (gL a b c d e f g) 1 [⟨#[97]⟩, sPoint, sOf] 1 15 20 = .tuple #[.int .i64 3, .bool true, .int .i64 0] := by kernel_rfl
theorem ex_f3 : findV (gL a b c d e f g) 1 [⟨#[97]⟩, sPoint, sOf, sOrder] 0 15 20 = .tuple #[.int .i64 0, .bool false, .int .i64 0] := by kernel_rfl
theorem ex_f4 : findV [] 0 [] 1 0 0 = .tuple #[.int .i64 0, .bool false, .int .i64 1] := by kernel_rfl
theorem ex_f5 : findV [] 0 [] 0 0 0 = .tuple #[.int .i64 0, .bool false, .int .i64 0] := by kernel_rfl
theorem ex_a1 : addE [gA a b, gC e f, gG g] (gB c d) = 0 ∧ addL [gA a b, gC e f, gG g] (gB c d) = gL a b c d e f g := ⟨by kernel_rfl, by kernel_rfl⟩
theorem ex_a2 : addE (gL a b c d e f g) (gA a b) = 181 := by kernel_rfl
theorem ex_s1 : sameTermsB [gA a b, gB c d] [gA a b, gB c d] = true := by kernel_rfl
theorem ex_s2 : sameTermsB [gB c d, gC e f] [gB c d, gC e f] = true := by kernel_rfl
theorem ex_s3 : sameTermsB [gB c d] [gB c d] = true := by kernel_rfl
theorem ex_s4 : sameTermsB (gL a b c d e f g) (gL a b c d e f g) = true := by kernel_rfl
end Go.Proofs.YtneanannicacnaaDoor
