-- Words of the kit's printer, laid by its own command for this seat; what no text of this seat uses is left out (by a program of this session); the kernel checks the rest.
import Derived.Test.YtpfjkpknljigmaaDoorWTab
namespace Go.Proofs.YtpfjkpknljigmaaDoorW.PrintLast
end Go.Proofs.YtpfjkpknljigmaaDoorW.PrintLast
